/- Equality of states: impl.same, spec.EqualState. · Memory that a call makes: a state of its own, a matrix of its own. · The walk of impl.flipped: rows and columns exchanged. · Matrices: valid ones, equal ones. · The product of a matrix and a state; the product of two matrices. · The law on append to a row of our own, with one part more: the new row lies in the old one's block, or in a new one. · The product of two matrices (impl). · Basis states. · A number of a matrix of our own is written; the adjoint matrix (impl). · The walk of impl.AdjointMatrix. · The identity matrix; whether a matrix is unitary (impl). · The reference's looks at states and matrices. · The reference's row by column, which passes zeros over. · The reference's row by column is the program's: zeros add nothing. No walk. · The product of a matrix and a state (spec). · Columns and the matrix with given columns (spec). · The product of two matrices (spec). · The adjoint matrix (spec). · The identity matrix; whether a matrix is unitary (spec). -/
import Derived.Test.YteckhaafdojoeaaGc
import Derived.BigQuiet
import Derived.Laws.StructEq
import Derived.OwnWalk
import Derived.ArgAppend
/-! S4: Equality of states: impl.same, spec.EqualState. -/
namespace Go.Proofs.Yteckhaafdojoeaa
open Go.RowKit BigFrame

theorem DO.eq_of {x y : DO} (h0 : x.n.a = y.n.a) (h1 : x.n.b = y.n.b) (h2 : x.n.c = y.n.c) (h3 : x.n.d = y.n.d) (h4 : x.e = y.e) : x = y := by
  obtain ⟨⟨a, b, c, d⟩, k⟩ := x
  obtain ⟨⟨a', b', c', d'⟩, k'⟩ := y
  simp_all
theorem neqIf {α : Type} (x y : DO) (A B : α) : (if x.n.a = y.n.a then if x.n.b = y.n.b then if x.n.c = y.n.c then if x.n.d = y.n.d then if x.e = y.e then A else B else B else B else B else B) = if x = y then A else B := by
  by_cases h : x = y
  · subst h; simp
  · rw [if_neg h]
    repeat' split
    all_goals first | rfl | exact absurd (DO.eq_of ‹_› ‹_› ‹_› ‹_› ‹_›) h
theorem take_eq_succ {α : Type} {u v : List α} {j : Nat} (hj : j < u.length) (hv : j < v.length) (h : u.take j = v.take j) (e : u[j] = v[j]) : u.take (j + 1) = v.take (j + 1) := by
  rw [List.take_succ_eq_append_getElem hj, List.take_succ_eq_append_getElem hv, h, e]
theorem eq_of_take {α : Type} {u v : List α} {j : Nat} (hj : ¬ j < u.length) (hl : u.length = v.length) (h : u.take j = v.take j) : u = v := by
  rwa [List.take_of_length_le (by omega), List.take_of_length_le (by omega)] at h

set_option maxHeartbeats 4000000 in
theorem iSame (ao bo : Option Addr) (u v : List DO) (cu cv : Nat) (hn : u.length ≤ 1000000000) (hn' : v.length ≤ 1000000000) (w : World) (hu : StR w ao u) (hv : StR w bo v) :
    Calls Try.prog 138 #[.slice ao u.length cu, .slice bo v.length cv] w fun e w' => e = .returned (.bool (decide (u = v))) ∧ Below w.heap.size w w' := by
  by_cases hl : u.length = v.length
  · have hl' : ((u.length : Int) != (v.length : Int)) = false := by simp [hl]
    have HL := Lib.hid hl
    clear hl
    go_enter Try.func138, Try.ntmps138
    go_wp2
    go_loopw [13] (fun x wr => ∃ j : Nat, x = .int .i64 j ∧ j ≤ u.length ∧ Hid (u.take j = v.take j) ∧ Below w.heap.size w wr) (fun x _ => u.length - (intOf x).toNat)
    case atStart => exact ⟨0, rfl, Nat.zero_le _, rfl, by (repeat (first | with_reducible exact Below.refl _ _ | with_reducible assumption | with_reducible refine Below.setCell ?_ (by first | omega | (simp; done) | (simp; omega)) _ | with_reducible refine Below.alloc ?_ (by first | omega | (simp; done) | (simp; omega)) _ | with_reducible refine Below.drew ?_ | with_reducible refine belowDrewN ?_ _ | with_reducible refine Below.trans ?_ (Below.mono (by assumption) (by first | omega | (simp; done) | (simp; omega)))))⟩
    case round =>
      obtain ⟨j, rfl, h0, hinv, hb0⟩ := hrel
      have hs0 := hb0.size
      by_cases hj : j < u.length
      · have hjv : j < v.length := by rw [← HL.out]; exact hj
        obtain ⟨b, o, rfl, hlt, hD⟩ := (hu.below hb0) j hj
        obtain ⟨d0, d1, d2, d3, d4⟩ := hD
        obtain ⟨b', o', rfl, hlt', hD'⟩ := (hv.below hb0) j hjv
        obtain ⟨g0, g1, g2, g3, g4⟩ := hD'
        by_cases he : u[j] = v[j]
        · have hnext := Lib.hid (take_eq_succ hj hjv hinv.out he)
          have HE := Lib.hid he
          clear he
          go_wp2
          refine wp_region_quiet_lit (by kernel_rfl) (by kernel_rfl) ?_
          repeat (go_big_quiet_step (fail))
          refine wpQuiet_step (fun K hK => ?_)
          go_simp
          refine ⟨.bool false, fun a => by rw [neqIf, if_pos HE.out]; exact ⟨rfl, rfl⟩, hK _ ?_⟩
          clear hK K
          refine wpQuiet_nil ?_
          intro _ hw'
          obtain ⟨nq, rfl⟩ := hw'
          go_wp2
          go_roundw
          case rel => exact ⟨j + 1, by go_num, by omega, hnext.out, by (repeat (first | with_reducible exact Below.refl _ _ | with_reducible assumption | with_reducible refine Below.setCell ?_ (by first | omega | (simp; done) | (simp; omega)) _ | with_reducible refine Below.alloc ?_ (by first | omega | (simp; done) | (simp; omega)) _ | with_reducible refine Below.drew ?_ | with_reducible refine belowDrewN ?_ _ | with_reducible refine Below.trans ?_ (Below.mono (by assumption) (by first | omega | (simp; done) | (simp; omega)))))⟩
          case measure => simp [intOf]; omega
        · have hfin : decide (u = v) = false := by
            rw [decide_eq_false_iff_not]
            intro e
            subst e
            exact he rfl
          have HE := Lib.hid he
          clear he
          go_wp2
          refine wp_region_quiet_lit (by kernel_rfl) (by kernel_rfl) ?_
          repeat (go_big_quiet_step (fail))
          refine wpQuiet_step (fun K hK => ?_)
          go_simp
          refine ⟨.bool true, fun a => by rw [neqIf, if_neg HE.out]; exact ⟨rfl, rfl⟩, hK _ ?_⟩
          clear hK K
          refine wpQuiet_nil ?_
          intro _ hw'
          obtain ⟨nq, rfl⟩ := hw'
          go_wp2
          go_ret
          exact ⟨by rw [hfin]; rfl, by (repeat (first | with_reducible exact Below.refl _ _ | with_reducible assumption | with_reducible refine Below.setCell ?_ (by first | omega | (simp; done) | (simp; omega)) _ | with_reducible refine Below.alloc ?_ (by first | omega | (simp; done) | (simp; omega)) _ | with_reducible refine Below.drew ?_ | with_reducible refine belowDrewN ?_ _ | with_reducible refine Below.trans ?_ (Below.mono (by assumption) (by first | omega | (simp; done) | (simp; omega)))))⟩
      · have hfin : decide (u = v) = true := by
          rw [decide_eq_true_iff]
          exact eq_of_take hj HL.out hinv.out
        go_wp2
        go_ret
        exact ⟨by rw [hfin]; rfl, by (repeat (first | with_reducible exact Below.refl _ _ | with_reducible assumption | with_reducible refine Below.setCell ?_ (by first | omega | (simp; done) | (simp; omega)) _ | with_reducible refine Below.alloc ?_ (by first | omega | (simp; done) | (simp; omega)) _ | with_reducible refine Below.drew ?_ | with_reducible refine belowDrewN ?_ _ | with_reducible refine Below.trans ?_ (Below.mono (by assumption) (by first | omega | (simp; done) | (simp; omega)))))⟩
  · have hl' : ((u.length : Int) != (v.length : Int)) = true := by simp; omega
    have hfin : decide (u = v) = false := by
      rw [decide_eq_false_iff_not]
      intro e
      exact hl (by rw [e])
    go_enter Try.func138, Try.ntmps138
    go_wp2
    go_ret
    exact ⟨by rw [hfin]; rfl, by (repeat (first | with_reducible exact Below.refl _ _ | with_reducible assumption | with_reducible refine Below.setCell ?_ (by first | omega | (simp; done) | (simp; omega)) _ | with_reducible refine Below.alloc ?_ (by first | omega | (simp; done) | (simp; omega)) _ | with_reducible refine Below.drew ?_ | with_reducible refine belowDrewN ?_ _ | with_reducible refine Below.trans ?_ (Below.mono (by assumption) (by first | omega | (simp; done) | (simp; omega)))))⟩

set_option maxHeartbeats 4000000 in
theorem sEqualState (ao bo : Option Addr) (u v : List DO) (cu cv : Nat) (hn : u.length ≤ 1000000000) (hn' : v.length ≤ 1000000000) (w : World) (hu : StR w ao u) (hv : StR w bo v) :
    Calls Try.prog 66 #[.slice ao u.length cu, .slice bo v.length cv] w fun e w' => e = .returned (.bool (decide (u = v))) ∧ Below w.heap.size w w' := by
  by_cases hl : u.length = v.length
  · have hl' : ((u.length : Int) != (v.length : Int)) = false := by simp [hl]
    have HL := Lib.hid hl
    clear hl
    go_enter Try.func66, Try.ntmps66
    go_wp2
    go_loopw [5] (fun x wr => ∃ j : Nat, x = .int .i64 j ∧ j ≤ u.length ∧ Hid (u.take j = v.take j) ∧ Below w.heap.size w wr) (fun x _ => u.length - (intOf x).toNat)
    case atStart => exact ⟨0, rfl, Nat.zero_le _, rfl, by (repeat (first | with_reducible exact Below.refl _ _ | with_reducible assumption | with_reducible refine Below.setCell ?_ (by first | omega | (simp; done) | (simp; omega)) _ | with_reducible refine Below.alloc ?_ (by first | omega | (simp; done) | (simp; omega)) _ | with_reducible refine Below.drew ?_ | with_reducible refine belowDrewN ?_ _ | with_reducible refine Below.trans ?_ (Below.mono (by assumption) (by first | omega | (simp; done) | (simp; omega)))))⟩
    case round =>
      obtain ⟨j, rfl, h0, hinv, hb0⟩ := hrel
      have hs0 := hb0.size
      by_cases hj : j < u.length
      · have hjv : j < v.length := by rw [← HL.out]; exact hj
        obtain ⟨b, o, rfl, hlt, hD⟩ := (hu.below hb0) j hj
        obtain ⟨d0, d1, d2, d3, d4⟩ := hD
        obtain ⟨b', o', rfl, hlt', hD'⟩ := (hv.below hb0) j hjv
        obtain ⟨g0, g1, g2, g3, g4⟩ := hD'
        by_cases he : u[j] = v[j]
        · have hnext := Lib.hid (take_eq_succ hj hjv hinv.out he)
          have HE := Lib.hid he
          clear he
          go_wp2
          refine wp_region_quiet_lit (by kernel_rfl) (by kernel_rfl) ?_
          repeat (go_big_quiet_step (fail))
          refine wpQuiet_step (fun K hK => ?_)
          go_simp
          refine ⟨.bool false, fun a => by rw [neqIf, if_pos HE.out]; exact ⟨rfl, rfl⟩, hK _ ?_⟩
          clear hK K
          refine wpQuiet_nil ?_
          intro _ hw'
          obtain ⟨nq, rfl⟩ := hw'
          go_wp2
          go_roundw
          case rel => exact ⟨j + 1, by go_num, by omega, hnext.out, by (repeat (first | with_reducible exact Below.refl _ _ | with_reducible assumption | with_reducible refine Below.setCell ?_ (by first | omega | (simp; done) | (simp; omega)) _ | with_reducible refine Below.alloc ?_ (by first | omega | (simp; done) | (simp; omega)) _ | with_reducible refine Below.drew ?_ | with_reducible refine belowDrewN ?_ _ | with_reducible refine Below.trans ?_ (Below.mono (by assumption) (by first | omega | (simp; done) | (simp; omega)))))⟩
          case measure => simp [intOf]; omega
        · have hfin : decide (u = v) = false := by
            rw [decide_eq_false_iff_not]
            intro e
            subst e
            exact he rfl
          have HE := Lib.hid he
          clear he
          go_wp2
          refine wp_region_quiet_lit (by kernel_rfl) (by kernel_rfl) ?_
          repeat (go_big_quiet_step (fail))
          refine wpQuiet_step (fun K hK => ?_)
          go_simp
          refine ⟨.bool true, fun a => by rw [neqIf, if_neg HE.out]; exact ⟨rfl, rfl⟩, hK _ ?_⟩
          clear hK K
          refine wpQuiet_nil ?_
          intro _ hw'
          obtain ⟨nq, rfl⟩ := hw'
          go_wp2
          go_ret
          exact ⟨by rw [hfin]; rfl, by (repeat (first | with_reducible exact Below.refl _ _ | with_reducible assumption | with_reducible refine Below.setCell ?_ (by first | omega | (simp; done) | (simp; omega)) _ | with_reducible refine Below.alloc ?_ (by first | omega | (simp; done) | (simp; omega)) _ | with_reducible refine Below.drew ?_ | with_reducible refine belowDrewN ?_ _ | with_reducible refine Below.trans ?_ (Below.mono (by assumption) (by first | omega | (simp; done) | (simp; omega)))))⟩
      · have hfin : decide (u = v) = true := by
          rw [decide_eq_true_iff]
          exact eq_of_take hj HL.out hinv.out
        go_wp2
        go_ret
        exact ⟨by rw [hfin]; rfl, by (repeat (first | with_reducible exact Below.refl _ _ | with_reducible assumption | with_reducible refine Below.setCell ?_ (by first | omega | (simp; done) | (simp; omega)) _ | with_reducible refine Below.alloc ?_ (by first | omega | (simp; done) | (simp; omega)) _ | with_reducible refine Below.drew ?_ | with_reducible refine belowDrewN ?_ _ | with_reducible refine Below.trans ?_ (Below.mono (by assumption) (by first | omega | (simp; done) | (simp; omega)))))⟩
  · have hl' : ((u.length : Int) != (v.length : Int)) = true := by simp; omega
    have hfin : decide (u = v) = false := by
      rw [decide_eq_false_iff_not]
      intro e
      exact hl (by rw [e])
    go_enter Try.func66, Try.ntmps66
    go_wp2
    go_ret
    exact ⟨by rw [hfin]; rfl, by (repeat (first | with_reducible exact Below.refl _ _ | with_reducible assumption | with_reducible refine Below.setCell ?_ (by first | omega | (simp; done) | (simp; omega)) _ | with_reducible refine Below.alloc ?_ (by first | omega | (simp; done) | (simp; omega)) _ | with_reducible refine Below.drew ?_ | with_reducible refine belowDrewN ?_ _ | with_reducible refine Below.trans ?_ (Below.mono (by assumption) (by first | omega | (simp; done) | (simp; omega)))))⟩

end Go.Proofs.Yteckhaafdojoeaa

/-! S5: Memory that a call makes: a state of its own, a matrix of its own. -/
namespace Go.Proofs.Yteckhaafdojoeaa
open Go.RowKit

abbrev TD : Nat := 114
abbrev TS : Nat := 56

def dcells (x : DO) : List Value := [.int .i64 x.n.a, .int .i64 x.n.b, .int .i64 x.n.c, .int .i64 x.n.d, .int .i64 x.e]
def cellsD (l : List DO) : List Value := l.flatMap dcells
theorem cellsD_snoc (l : List DO) (x : DO) : cellsD (l ++ [x]) = cellsD l ++ dcells x := by simp [cellsD]
theorem cellsD_length (l : List DO) : (cellsD l).length = l.length * 5 := by
  induction l with
  | nil => rfl
  | cons x l ih => simp only [cellsD, List.flatMap_cons, List.length_append, List.length_cons] at *; rw [ih]; simp [dcells]; omega
theorem cellsD_get : ∀ (l : List DO) (i : Nat) (h : i < l.length) (j : Nat), j < 5 → (cellsD l)[i * 5 + j]? = (dcells l[i])[j]?
  | x :: l, 0, _, j, hj => by
    simp only [cellsD, List.flatMap_cons, Nat.zero_mul, Nat.zero_add, List.getElem_cons_zero]
    rw [List.getElem?_append_left (by simpa [dcells] using hj)]
  | x :: l, i + 1, h, j, hj => by
    simp only [cellsD, List.flatMap_cons, List.getElem_cons_succ]
    rw [List.getElem?_append_right (by simp [dcells]; omega), show (i + 1) * 5 + j - (dcells x).length = i * 5 + j by simp [dcells]; omega]
    exact cellsD_get l i (by simpa using h) j hj

/-- v is a state of the call's own, in blocks from base on, that reads as l. -/
def OwnS (w : World) (base : Nat) (v : Value) (l : List DO) : Prop := w.ownsRow base TD 5 v l.length (cellsD l)

theorem OwnS.read {w : World} {base : Nat} {v : Value} {l : List DO} (h : OwnS w base v l) : ∃ ao cap, v = .slice ao l.length cap ∧ StR w ao l ∧ l.length ≤ cap ∧ cap ≤ maxLen := by
  rcases h.2 with ⟨rfl, h0⟩ | ⟨g, cap, cur, rfl, hb, hg, hn, hc, hs, ht⟩
  · exact ⟨none, 0, by rw [h0], fun i hi => absurd hi (by omega), by omega, by decide⟩
  · refine ⟨_, cap, rfl, fun i hi => ⟨g, 0, rfl, (Array.getElem?_eq_some_iff.1 hg).1, ?_⟩, hn, hc⟩
    have key : ∀ j, j < 5 → w.cell? ⟨g, 0 + i * 5 + j, none⟩ = (dcells l[i])[j]? := fun j hj => by
      rw [Nat.zero_add, World.ownsRow.cellAt h (i * 5 + j) (by omega), cellsD_get l i hi j hj]
    exact ⟨key 0 (by omega), key 1 (by omega), key 2 (by omega), key 3 (by omega), key 4 (by omega)⟩
theorem OwnS.below {B : Nat} {w w' : World} {base : Nat} {v : Value} {l : List DO} (h : OwnS w base v l) (hb : Below B w w') (hB : w.heap.size ≤ B) : OwnS w' base v l := by
  refine ⟨h.1, ?_⟩
  rcases h.2 with h0 | ⟨g, cap, cur, hv, hbg, hg, r⟩
  · exact .inl h0
  · exact .inr ⟨g, cap, cur, hv, hbg, by rw [hb.block g (Nat.lt_of_lt_of_le (Array.getElem?_eq_some_iff.1 hg).1 hB), hg], r⟩
theorem OwnS.mono {w : World} {base base' : Nat} {v : Value} {l : List DO} (h : OwnS w base v l) (hb : base' ≤ base) : OwnS w base' v l := by
  refine ⟨h.1, ?_⟩
  rcases h.2 with h0 | ⟨g, cap, cur, hv, hbg, r⟩
  · exact .inl h0
  · exact .inr ⟨g, cap, cur, hv, Nat.le_trans hb hbg, r⟩
theorem OwnS.nil (w : World) (base : Nat) : OwnS w base (.slice none 0 0) [] := World.ownsRow_nil _ _ _ _
theorem OwnS.snoc {w : World} {base : Nat} {v : Value} {l : List DO} {x : DO} (h : w.ownsRow base TD 5 v (l.length + 1) (cellsD l ++ dcells x)) : OwnS w base v (l ++ [x]) := by
  unfold OwnS
  rw [cellsD_snoc, List.length_append]
  exact h

/-- v is a matrix of the call's own: its rows lie apart. -/
def OwnM (w : World) (base : Nat) (v : Value) (m : List (List DO)) : Prop :=
  ∃ vs : List Value, w.ownsRow base TS 1 v m.length vs ∧ (∀ i (h : i < m.length), ∃ x, vs[i]? = some x ∧ OwnS w base x m[i]) ∧
    ∀ (i j : Nat) (x y : Value), i < j → vs[i]? = some x → vs[j]? = some y → ∀ a, x.ownBlock = some a → y.ownBlock ≠ some a
/-- The slice (ao, n) reads as the matrix m. -/
def MtR (w : World) (ao : Option Addr) (m : List (List DO)) : Prop :=
  ∀ i (h : i < m.length), ∃ b o, ao = some ⟨b, o, none⟩ ∧ b < w.heap.size ∧ ∃ ro cap, w.cell? ⟨b, o + i, none⟩ = some (.slice ro m[i].length cap) ∧ StR w ro m[i]
theorem MtR.below {w w' : World} {ao : Option Addr} {m : List (List DO)} (h : MtR w ao m) (hb : Below w.heap.size w w') : MtR w' ao m := fun i hi => by
  obtain ⟨b, o, h1, h2, ro, cap, h3, h4⟩ := h i hi
  exact ⟨b, o, h1, Nat.lt_of_lt_of_le h2 hb.size, ro, cap, by rw [hb.cell (p := ⟨b, o + i, none⟩) h2, h3], h4.below hb⟩
theorem OwnM.read {w : World} {base : Nat} {v : Value} {m : List (List DO)} (h : OwnM w base v m) : ∃ ao cap, v = .slice ao m.length cap ∧ MtR w ao m ∧ m.length ≤ cap ∧ cap ≤ maxLen := by
  obtain ⟨vs, ho, hr, _⟩ := h
  rcases ho.2 with ⟨rfl, h0⟩ | ⟨g, cap, cur, rfl, hb, hg, hn, hc, hs, ht⟩
  · exact ⟨none, 0, by rw [h0], fun i hi => absurd hi (by omega), by omega, by decide⟩
  · refine ⟨_, cap, rfl, fun i hi => ?_, hn, hc⟩
    obtain ⟨x, hx, hS⟩ := hr i hi
    obtain ⟨ro, c, rfl, hR, _⟩ := hS.read
    refine ⟨g, 0, rfl, (Array.getElem?_eq_some_iff.1 hg).1, ro, c, ?_, hR⟩
    rw [Nat.zero_add, World.ownsRow.cellAt ho i (by omega), hx]
theorem OwnM.below {B : Nat} {w w' : World} {base : Nat} {v : Value} {m : List (List DO)} (h : OwnM w base v m) (hb : Below B w w') (hB : w.heap.size ≤ B) : OwnM w' base v m := by
  obtain ⟨vs, ho, hr, hd⟩ := h
  refine ⟨vs, ⟨ho.1, ?_⟩, fun i hi => (hr i hi).imp fun x hx => ⟨hx.1, hx.2.below hb hB⟩, hd⟩
  rcases ho.2 with h0 | ⟨g, cap, cur, hv, hbg, hg, r⟩
  · exact .inl h0
  · exact .inr ⟨g, cap, cur, hv, hbg, by rw [hb.block g (Nat.lt_of_lt_of_le (Array.getElem?_eq_some_iff.1 hg).1 hB), hg], r⟩

/-- A row of slices and a state never lie in one block. -/
theorem OwnS.apart {w : World} {base b : Nat} {x v : Value} {l : List DO} {n : Nat} {vs : List Value} (h : OwnS w base x l) (ho : w.ownsRow b TS 1 v n vs) : x.ownBlock = none ∨ x.ownBlock ≠ v.ownBlock := by
  rcases h.2 with ⟨rfl, _⟩ | ⟨g, cap, cur, rfl, _, hg, _⟩
  · exact .inl rfl
  · rcases ho.2 with ⟨rfl, _⟩ | ⟨g', cap', cur', rfl, _, hg', _⟩
    · exact .inr (by simp [Value.ownBlock])
    · refine .inr fun e => ?_
      simp only [Value.ownBlock, Option.some.injEq] at e
      subst e
      rw [hg] at hg'
      simp [TD, TS] at hg'

theorem OwnM.snoc {w0 w1 w2 : World} {base : Nat} {v v' x : Value} {m : List (List DO)} {r : List DO} {vs : List Value} {ob : Obj} (hbase : base ≤ w0.heap.size)
    (ho : w0.ownsRow base TS 1 v m.length vs) (hr : ∀ i (h : i < m.length), ∃ x, vs[i]? = some x ∧ OwnS w0 base x m[i])
    (hd : ∀ (i j : Nat) (x y : Value), i < j → vs[i]? = some x → vs[j]? = some y → ∀ a, x.ownBlock = some a → y.ownBlock ≠ some a)
    (hb : Below w0.heap.size w0 w1) (hx : OwnS w1 w0.heap.size x r) (ho2 : w2.ownsRow base TS 1 v' (m.length + 1) (vs ++ [x])) (hg : (w1.alloc ob).grownBy w2 v.ownBlock) : OwnM w2 base v' (m ++ [r]) := by
  have ho1 : w1.ownsRow base TS 1 v m.length vs := by
    refine ⟨ho.1, ?_⟩
    rcases ho.2 with h0 | ⟨g, cap, cur, hv, hbg, hg, r⟩
    · exact .inl h0
    · exact .inr ⟨g, cap, cur, hv, hbg, by rw [hb.block g (Array.getElem?_eq_some_iff.1 hg).1, hg], r⟩
  have hl : vs.length = m.length := by have := ho.1; omega
  have keep : ∀ {y : Value} {l : List DO} {bb : Nat}, OwnS w1 bb y l → OwnS w2 bb y l := fun {y l bb} hy =>
    (World.ownsRow.alloc hy ob).kept hg (OwnS.apart hy ho1)
  refine ⟨vs ++ [x], by rw [List.length_append]; exact ho2, fun i hi => ?_, fun i j y z hij hy hz a ha => ?_⟩
  · by_cases him : i < m.length
    · obtain ⟨y, hy, hS⟩ := hr i him
      refine ⟨y, by rw [List.getElem?_append_left (by omega)]; exact hy, ?_⟩
      rw [List.getElem_append_left him]
      exact keep (hS.below hb (Nat.le_refl _))
    · have hi' : i = m.length := by simp at hi; omega
      subst hi'
      refine ⟨x, by rw [List.getElem?_append_right (by omega), hl]; simp, ?_⟩
      rw [List.getElem_append_right (Nat.le_refl _)]
      simp only [Nat.sub_self, List.getElem_cons_zero]
      exact (keep hx).mono hbase
  · have hjl : j < vs.length + 1 := by
      have := (List.getElem?_eq_some_iff.1 hz).1
      simpa using this
    have hil : i < vs.length := by omega
    rw [List.getElem?_append_left hil] at hy
    by_cases hj : j < vs.length
    · rw [List.getElem?_append_left hj] at hz
      exact hd i j y z hij hy hz a ha
    · have hj' : j = vs.length := by omega
      subst hj'
      rw [List.getElem?_append_right (Nat.le_refl _)] at hz
      simp only [Nat.sub_self, List.getElem?_cons_zero, Option.some.injEq] at hz
      subst hz
      intro hc
      obtain ⟨y', hy', hS⟩ := hr i (by omega)
      rw [hy] at hy'
      obtain rfl := Option.some.inj hy'
      have h1 := (World.ownsRow.lt hS a ha).2
      have h2 := (World.ownsRow.lt hx a hc).1
      omega

theorem infoD : (Try.prog.info? TD).map (fun i => (i.zero, i.size, i.bytes)) = some (some (.agg #[.int .i64 0, .int .i64 0, .int .i64 0, .int .i64 0, .int .i64 0]), 5, 40) := by kernel_rfl
theorem infoS : (Try.prog.info? TS).map (fun i => (i.zero, i.size, i.bytes)) = some (some (.slice none 0 0), 1, 24) := by kernel_rfl

end Go.Proofs.Yteckhaafdojoeaa

/-! S6: The walk of impl.flipped: rows and columns exchanged. -/
namespace Go.Proofs.Yteckhaafdojoeaa
open Go.RowKit

/-- Column i. -/
def colAt (m : List (List DO)) (i : Nat) : List DO := m.map fun r => r.getD i ⟨⟨0, 0, 0, 0⟩, 0⟩
/-- Rows and columns exchanged. -/
def flip (m : List (List DO)) : List (List DO) := (List.range m.length).map (colAt m)
theorem colAt_length (m : List (List DO)) (i : Nat) : (colAt m i).length = m.length := by simp [colAt]
theorem flip_length (m : List (List DO)) : (flip m).length = m.length := by simp [flip]
theorem colAt_take (m : List (List DO)) (i j : Nat) (hj : j < m.length) (hi : i < m[j].length) : (colAt m i).take (j + 1) = (colAt m i).take j ++ [m[j][i]] := by
  rw [List.take_succ_eq_append_getElem (by simpa [colAt] using hj)]
  simp [colAt, List.getD, hi]
theorem flip_take (m : List (List DO)) (k : Nat) (hk : k < m.length) : (flip m).take (k + 1) = (flip m).take k ++ [colAt m k] := by
  rw [List.take_succ_eq_append_getElem (by simpa [flip] using hk)]
  simp [flip]

theorem ownsRow_below {B : Nat} {w w' : World} {base e size n : Nat} {v : Value} {xs : List Value} (h : w.ownsRow base e size v n xs) (hb : Below B w w') (hB : w.heap.size ≤ B) : w'.ownsRow base e size v n xs := by
  refine ⟨h.1, ?_⟩
  rcases h.2 with h0 | ⟨g, cap, cur, hv, hbg, hg, r⟩
  · exact .inl h0
  · exact .inr ⟨g, cap, cur, hv, hbg, by rw [hb.block g (Nat.lt_of_lt_of_le (Array.getElem?_eq_some_iff.1 hg).1 hB), hg], r⟩
theorem OwnS.empty {w : World} {base : Nat} (hb : base ≤ w.heap.size) : OwnS (w.alloc (.cells #[] TD)) base (.slice (some ⟨w.heap.size, 0, none⟩) 0 0) [] :=
  World.ownsRow_made (size := 5) w #[] 0 hb (by decide) rfl
theorem OwnM.empty {w : World} {base : Nat} (hb : base ≤ w.heap.size) : OwnM (w.alloc (.cells #[] TS)) base (.slice (some ⟨w.heap.size, 0, none⟩) 0 0) [] :=
  ⟨[], World.ownsRow_made (size := 1) w #[] 0 hb (by decide) rfl, fun i hi => absurd hi (Nat.not_lt_zero _), fun i j x y _ hx => by simp at hx⟩

theorem at_new (w : World) (xs : List Value) (t : TypeId) : ∀ j u, xs[j]? = some u → (w.alloc (.cells xs.toArray t)).cell? ((⟨w.heap.size, 0, none⟩ : Addr).add j) = some u := by
  intro j u hu
  have := (Blk.new w xs t).cell j
  rw [hu] at this
  rw [Addr.add_lit, Nat.zero_add]
  exact this
theorem dcells_one (x : DO) : ∀ u ∈ dcells x, u.oneCell' = true := by
  intro u hu
  simp only [dcells, List.mem_cons, List.not_mem_nil, or_false] at hu
  rcases hu with rfl | rfl | rfl | rfl | rfl <;> rfl
theorem slice_one (a : Option Addr) (n c : Nat) : ∀ u ∈ [Value.slice a n c], u.oneCell' = true := by
  intro u hu
  simp only [List.mem_cons, List.not_mem_nil, or_false] at hu
  subst hu
  rfl
/-- What an append to a state of our own leaves. -/
theorem grownS {B : Nat} {w0 w w' : World} {v : Value} {l : List DO} {o : Obj} (hb : Below B w0 w) (hB : B ≤ w.heap.size) (hS : OwnS w B v l) (hg : (w.alloc o).grownBy w' v.ownBlock) : Below B w0 w' :=
  (hb.alloc hB o).grown hg (by simp; omega) fun k hk => (World.ownsRow.lt hS k hk).1

set_option maxHeartbeats 4000000 in
theorem iFlipped (ao : Option Addr) (m : List (List DO)) (cap : Nat) (hn : m.length ≤ 2000000) (hr : ∀ r ∈ m, m.length ≤ r.length ∧ r.length ≤ 2000000) (w : World) (h : MtR w ao m) :
    Calls Try.prog 99 #[.slice ao m.length cap] w fun e w' => ∃ v, e = .returned v ∧ OwnM w' w.heap.size v (flip m) ∧ Below w.heap.size w w' := by
  obtain ⟨iD, hiD, hzD0, hzD1, hzD2⟩ := info_parts infoD
  obtain ⟨iS, hiS, hzS0, hzS1, hzS2⟩ := info_parts infoS
  go_enter Try.func99, Try.ntmps99
  go_wp2
  go_loopw [3, 11] (fun v x wr => ∃ k : Nat, x = .int .i64 k ∧ k ≤ m.length ∧ OwnM wr w.heap.size v ((flip m).take k) ∧ Below w.heap.size w wr) (fun _ x _ => m.length - (intOf x).toNat)
  case atStart => exact ⟨0, rfl, Nat.zero_le _, OwnM.empty (Nat.le_refl _), by (repeat (first | with_reducible exact Below.refl _ _ | with_reducible assumption | with_reducible refine Below.setCell ?_ (by first | omega | (simp; done) | (simp; omega)) _ | with_reducible refine Below.alloc ?_ (by first | omega | (simp; done) | (simp; omega)) _ | with_reducible refine Below.drew ?_ | with_reducible refine belowDrewN ?_ _ | with_reducible refine Below.trans ?_ (Below.mono (by assumption) (by first | omega | (simp; done) | (simp; omega)))))⟩
  case round =>
    obtain ⟨k, rfl, h0, hM, hb0⟩ := hrel
    have hs0 := hb0.size
    by_cases hk : k < m.length
    · obtain ⟨wo, rfl⟩ : ∃ wo : World, wo = wr := ⟨_, rfl⟩
      go_wp2
      go_loopw [5, 17] (fun r y wi => ∃ j : Nat, y = .int .i64 j ∧ j ≤ m.length ∧ OwnS wi wo.heap.size r ((colAt m k).take j) ∧ Below wo.heap.size wo wi) (fun _ y _ => m.length - (intOf y).toNat)
      case atStart => exact ⟨0, rfl, Nat.zero_le _, OwnS.empty (Nat.le_refl _), by (repeat (first | with_reducible exact Below.refl _ _ | with_reducible assumption | with_reducible refine Below.setCell ?_ (by first | omega | (simp; done) | (simp; omega)) _ | with_reducible refine Below.alloc ?_ (by first | omega | (simp; done) | (simp; omega)) _ | with_reducible refine Below.drew ?_ | with_reducible refine belowDrewN ?_ _ | with_reducible refine Below.trans ?_ (Below.mono (by assumption) (by first | omega | (simp; done) | (simp; omega)))))⟩
      case round =>
        obtain ⟨j, rfl, j0, hS, hb1⟩ := hrel
        have hs1 := hb1.size
        have hb2 : Below w.heap.size w wr := hb0.trans (hb1.mono hs0)
        have hlen : ((colAt m k).take j).length = j := by rw [List.length_take, colAt_length]; omega
        by_cases hj : j < m.length
        · obtain ⟨b, o, rfl, hlt, ro, rc, hcell, hR⟩ := (h.below hb2) j hj
          have hkj : k < m[j].length := by have := (hr m[j] (List.getElem_mem _)).1; omega
          obtain ⟨b', o', rfl, hlt', hD⟩ := hR k hkj
          obtain ⟨d0, d1, d2, d3, d4⟩ := hD
          clear hM h hb0 hb2
          go_wp2_with (first | (at_builtin; refine wpList_append_own _ rfl _ _ 56 rfl wo.heap.size TD iD _ 5 40 Try.underlying56 hiD hzD0 hzD1 hzD2 rfl (by decide) _ _ _ rfl (World.ownsRow.alloc hS _) ⟨wr.heap.size, 0, none⟩ 1 1 (dcells m[j][k]) rfl rfl ?c1 ?c2 ?c3 ?c4 ?c5 ?_))
          case c1 => exact at_new _ (dcells m[j][k]) _
          case c2 => exact dcells_one _
          case c3 => rw [hlen]; unfold maxLen; omega
          case c4 => rw [hlen]; omega
          case c5 => simp; omega
          intro v' w' hown' hgrow _
          have hS' : OwnS w' wo.heap.size v' ((colAt m k).take (j + 1)) := by
            rw [colAt_take m k j hj hkj]
            exact OwnS.snoc (by rw [hlen]; exact hown')
          have hb' := grownS hb1 hs1 hS hgrow
          clear hown' hgrow hS
          go_wp2
          go_roundw
          case rel => exact ⟨j + 1, by go_num, by omega, hS', hb'⟩
          case measure => simp [intOf]; omega
        · obtain ⟨vs, ho, hrows, hdist⟩ := hM
          have hj' : j = m.length := by omega
          subst hj'
          have hcol : (colAt m k).take m.length = colAt m k := List.take_of_length_le (by rw [colAt_length]; exact Nat.le_refl _)
          rw [hcol] at hS
          have hlen2 : ((flip m).take k).length = k := by rw [List.length_take, flip_length]; omega
          obtain ⟨ro, rc, hro, hR, _⟩ := hS.read
          subst hro
          have ho1 : wr.ownsRow w.heap.size TS 1 u3 ((flip m).take k).length vs := ownsRow_below ho hb1 (Nat.le_refl _)
          go_wp2_with (first | (at_builtin; refine wpList_append_own _ rfl _ _ 26 rfl w.heap.size TS iS _ 1 24 Try.underlying26 hiS hzS0 hzS1 hzS2 rfl (by decide) _ _ _ rfl (World.ownsRow.alloc ho1 _) ⟨wr.heap.size, 0, none⟩ 1 1 [.slice ro (colAt m k).length rc] rfl rfl ?c1 ?c2 ?c3 ?c4 ?c5 ?_))
          case c1 => exact at_new _ [Value.slice ro (colAt m k).length rc] _
          case c2 => exact slice_one _ _ _
          case c3 => rw [hlen2]; unfold maxLen; omega
          case c4 => rw [hlen2]; omega
          case c5 => simp; omega
          intro v' w' hown' hgrow _
          have hM' : OwnM w' w.heap.size v' ((flip m).take (k + 1)) := by
            rw [flip_take m k hk]
            exact OwnM.snoc hs0 ho hrows hdist hb1 hS (by rw [hlen2]; exact hown') hgrow
          have hb' : Below w.heap.size w w' := (hb2.alloc (by omega) _).grown hgrow (by simp; omega) fun x hx => (World.ownsRow.lt ho x hx).1
          clear hown' hgrow ho ho1 hrows hdist
          go_wp2
          go_roundw
          case rel => exact ⟨k + 1, by go_num, by omega, hM', hb'⟩
          case measure => simp [intOf]; omega
    · have hkl : k = m.length := by omega
      subst hkl
      have hf : (flip m).take m.length = flip m := List.take_of_length_le (by rw [flip_length]; exact Nat.le_refl _)
      rw [hf] at hM
      go_wp2
      go_ret
      exact ⟨_, rfl, hM, by (repeat (first | with_reducible exact Below.refl _ _ | with_reducible assumption | with_reducible refine Below.setCell ?_ (by first | omega | (simp; done) | (simp; omega)) _ | with_reducible refine Below.alloc ?_ (by first | omega | (simp; done) | (simp; omega)) _ | with_reducible refine Below.drew ?_ | with_reducible refine belowDrewN ?_ _ | with_reducible refine Below.trans ?_ (Below.mono (by assumption) (by first | omega | (simp; done) | (simp; omega)))))⟩

end Go.Proofs.Yteckhaafdojoeaa

/-! S7: Matrices: valid ones, equal ones. -/
namespace Go.Proofs.Yteckhaafdojoeaa
open Go.RowKit

/-- A bound on sizes, by which no count wraps and each append has room. -/
def SzM (m : List (List DO)) : Prop := m.length ≤ 2000000 ∧ ∀ r ∈ m, r.length ≤ 2000000
def okM (m : List (List DO)) : Bool := m.all (fun r => decide (r.length = m.length) && okS r) && decide (0 < m.length)
theorem okM_no {m : List (List DO)} {j : Nat} (hj : j < m.length) (h : ¬ (m[j].length = m.length ∧ okS m[j] = true)) : okM m = false := by
  rw [okM, Bool.and_eq_false_iff]
  left
  rw [List.all_eq_false]
  refine ⟨m[j], List.getElem_mem _, ?_⟩
  simpa using h
theorem okM_yes {m : List (List DO)} (h : ∀ i (hi : i < m.length), m[i].length = m.length ∧ okS m[i] = true) : okM m = decide (0 < m.length) := by
  rw [okM]
  have : m.all (fun r => decide (r.length = m.length) && okS r) = true := by
    rw [List.all_eq_true]
    intro x hx
    obtain ⟨i, hi, rfl⟩ := List.getElem_of_mem hx
    simpa using h i hi
  rw [this, Bool.true_and]
theorem rows_step {m : List (List DO)} {j : Nat} (h : ∀ i (hi : i < m.length), i < j → m[i].length = m.length ∧ okS m[i] = true) {hj : j < m.length} (hx : m[j].length = m.length ∧ okS m[j] = true) :
    ∀ i (hi : i < m.length), i < j + 1 → m[i].length = m.length ∧ okS m[i] = true := fun i hi hij => by
  by_cases e : i = j
  · subst e; exact hx
  · exact h i hi (by omega)

set_option maxHeartbeats 4000000 in
theorem iIsValidMatrix (ao : Option Addr) (m : List (List DO)) (cap : Nat) (hz : SzM m) (w : World) (h : MtR w ao m) :
    Calls Try.prog 75 #[.slice ao m.length cap] w fun e w' => e = .returned (.bool (okM m)) ∧ Below w.heap.size w w' := by
  obtain ⟨hz1, hz2⟩ := hz
  go_enter Try.func75, Try.ntmps75
  go_wp2
  go_loopw [7] (fun x wr => ∃ j : Nat, x = .int .i64 j ∧ j ≤ m.length ∧ Hid (∀ i (hi : i < m.length), i < j → m[i].length = m.length ∧ okS m[i] = true) ∧ Below w.heap.size w wr) (fun x _ => m.length - (intOf x).toNat)
  case atStart => exact ⟨0, rfl, Nat.zero_le _, fun _ _ h => absurd h (Nat.not_lt_zero _), by (repeat (first | with_reducible exact Below.refl _ _ | with_reducible assumption | with_reducible refine Below.setCell ?_ (by first | omega | (simp; done) | (simp; omega)) _ | with_reducible refine Below.alloc ?_ (by first | omega | (simp; done) | (simp; omega)) _ | with_reducible refine Below.drew ?_ | with_reducible refine belowDrewN ?_ _ | with_reducible refine Below.trans ?_ (Below.mono (by assumption) (by first | omega | (simp; done) | (simp; omega)))))⟩
  case round =>
    obtain ⟨j, rfl, h0, hinv, hb0⟩ := hrel
    have hs0 := hb0.size
    by_cases hj : j < m.length
    · obtain ⟨b, o, rfl, hlt, ro, rc, hcell, hR⟩ := (h.below hb0) j hj
      have hz3 : m[j].length ≤ 1000000000 := by have := hz2 m[j] (List.getElem_mem _); omega
      clear h
      by_cases hl : m[j].length = m.length
      · have hl' : ((m[j].length : Int) != (m.length : Int)) = false := by simp [hl]
        have HL := Lib.hid hl
        clear hl
        by_cases hx : okS m[j] = true
        · go_wp2_with (go_at_call 124; refine (iIsValidState _ _ _ hz3 _ (hR.below (by (repeat (first | with_reducible exact Below.refl _ _ | with_reducible assumption | with_reducible refine Below.setCell ?_ (by first | omega | (simp; done) | (simp; omega)) _ | with_reducible refine Below.alloc ?_ (by first | omega | (simp; done) | (simp; omega)) _ | with_reducible refine Below.drew ?_ | with_reducible refine belowDrewN ?_ _ | with_reducible refine Below.trans ?_ (Below.mono (by assumption) (by first | omega | (simp; done) | (simp; omega)))))))).mono ?_; rintro e w1 ⟨rfl, hb⟩)
          go_roundw
          case rel => exact ⟨j + 1, by go_num, by omega, rows_step hinv.out ⟨HL.out, hx⟩, by (repeat (first | with_reducible exact Below.refl _ _ | with_reducible assumption | with_reducible refine Below.setCell ?_ (by first | omega | (simp; done) | (simp; omega)) _ | with_reducible refine Below.alloc ?_ (by first | omega | (simp; done) | (simp; omega)) _ | with_reducible refine Below.drew ?_ | with_reducible refine belowDrewN ?_ _ | with_reducible refine Below.trans ?_ (Below.mono (by assumption) (by first | omega | (simp; done) | (simp; omega)))))⟩
          case measure => simp [intOf]; omega
        · have hfin := Lib.hid (okM_no hj (fun h => hx h.2))
          go_wp2_with (go_at_call 124; refine (iIsValidState _ _ _ hz3 _ (hR.below (by (repeat (first | with_reducible exact Below.refl _ _ | with_reducible assumption | with_reducible refine Below.setCell ?_ (by first | omega | (simp; done) | (simp; omega)) _ | with_reducible refine Below.alloc ?_ (by first | omega | (simp; done) | (simp; omega)) _ | with_reducible refine Below.drew ?_ | with_reducible refine belowDrewN ?_ _ | with_reducible refine Below.trans ?_ (Below.mono (by assumption) (by first | omega | (simp; done) | (simp; omega)))))))).mono ?_; rintro e w1 ⟨rfl, hb⟩)
          go_ret
          exact ⟨by rw [hfin.out]; rfl, by (repeat (first | with_reducible exact Below.refl _ _ | with_reducible assumption | with_reducible refine Below.setCell ?_ (by first | omega | (simp; done) | (simp; omega)) _ | with_reducible refine Below.alloc ?_ (by first | omega | (simp; done) | (simp; omega)) _ | with_reducible refine Below.drew ?_ | with_reducible refine belowDrewN ?_ _ | with_reducible refine Below.trans ?_ (Below.mono (by assumption) (by first | omega | (simp; done) | (simp; omega)))))⟩
      · have hl' : ((m[j].length : Int) != (m.length : Int)) = true := by simp; omega
        have hfin := Lib.hid (okM_no hj (fun h => hl h.1))
        clear hl
        go_wp2
        go_ret
        exact ⟨by rw [hfin.out]; rfl, by (repeat (first | with_reducible exact Below.refl _ _ | with_reducible assumption | with_reducible refine Below.setCell ?_ (by first | omega | (simp; done) | (simp; omega)) _ | with_reducible refine Below.alloc ?_ (by first | omega | (simp; done) | (simp; omega)) _ | with_reducible refine Below.drew ?_ | with_reducible refine belowDrewN ?_ _ | with_reducible refine Below.trans ?_ (Below.mono (by assumption) (by first | omega | (simp; done) | (simp; omega)))))⟩
    · have hfin := Lib.hid (okM_yes (m := m) (fun i hi => hinv.out i hi (by omega)))
      go_wp2
      go_ret
      exact ⟨by rw [hfin.out]; simp, by (repeat (first | with_reducible exact Below.refl _ _ | with_reducible assumption | with_reducible refine Below.setCell ?_ (by first | omega | (simp; done) | (simp; omega)) _ | with_reducible refine Below.alloc ?_ (by first | omega | (simp; done) | (simp; omega)) _ | with_reducible refine Below.drew ?_ | with_reducible refine belowDrewN ?_ _ | with_reducible refine Below.trans ?_ (Below.mono (by assumption) (by first | omega | (simp; done) | (simp; omega)))))⟩

set_option maxHeartbeats 4000000 in
theorem iEqualMatrix (ao bo : Option Addr) (m n : List (List DO)) (cm cn : Nat) (hm : SzM m) (hn : SzM n) (w : World) (h : MtR w ao m) (h' : MtR w bo n) :
    Calls Try.prog 104 #[.slice ao m.length cm, .slice bo n.length cn] w fun e w' => e = .returned (.bool (decide (m = n))) ∧ Below w.heap.size w w' := by
  obtain ⟨hm1, hm2⟩ := hm
  obtain ⟨hn1, hn2⟩ := hn
  by_cases hl : m.length = n.length
  · have hl' : ((m.length : Int) != (n.length : Int)) = false := by simp [hl]
    have HL := Lib.hid hl
    clear hl
    go_enter Try.func104, Try.ntmps104
    go_wp2
    go_loopw [13] (fun x wr => ∃ j : Nat, x = .int .i64 j ∧ j ≤ m.length ∧ Hid (m.take j = n.take j) ∧ Below w.heap.size w wr) (fun x _ => m.length - (intOf x).toNat)
    case atStart => exact ⟨0, rfl, Nat.zero_le _, rfl, by (repeat (first | with_reducible exact Below.refl _ _ | with_reducible assumption | with_reducible refine Below.setCell ?_ (by first | omega | (simp; done) | (simp; omega)) _ | with_reducible refine Below.alloc ?_ (by first | omega | (simp; done) | (simp; omega)) _ | with_reducible refine Below.drew ?_ | with_reducible refine belowDrewN ?_ _ | with_reducible refine Below.trans ?_ (Below.mono (by assumption) (by first | omega | (simp; done) | (simp; omega)))))⟩
    case round =>
      obtain ⟨j, rfl, h0, hinv, hb0⟩ := hrel
      have hs0 := hb0.size
      by_cases hj : j < m.length
      · have hjn : j < n.length := by rw [← HL.out]; exact hj
        obtain ⟨b, o, rfl, hlt, ro, rc, hcell, hR⟩ := (h.below hb0) j hj
        obtain ⟨b', o', rfl, hlt', ro', rc', hcell', hR'⟩ := (h'.below hb0) j hjn
        have hz1 : m[j].length ≤ 1000000000 := by have := hm2 m[j] (List.getElem_mem _); omega
        have hz2 : n[j].length ≤ 1000000000 := by have := hn2 n[j] (List.getElem_mem _); omega
        clear h h'
        by_cases he : m[j] = n[j]
        · have hnext := Lib.hid (take_eq_succ hj hjn hinv.out he)
          have hdec : decide (m[j] = n[j]) = true := decide_eq_true he
          clear he
          go_wp2
          go_region_held3 (fun w' => Below wr.heap.size wr w' ∧ (∀ b o, b < wr.heap.size → w'.cell? ⟨b, o, none⟩ = wr.cell? ⟨b, o, none⟩) ∧ (∀ b o, b < wr.heap.size → w'.frozen? ⟨b, o, none⟩ = wr.frozen? ⟨b, o, none⟩) ∧ wr.heap.size ≤ w'.heap.size) ((exact bpack (by (repeat (first | with_reducible exact Below.refl _ _ | with_reducible assumption | with_reducible refine Below.setCell ?_ (by first | omega | (simp; done) | (simp; omega)) _ | with_reducible refine Below.alloc ?_ (by first | omega | (simp; done) | (simp; omega)) _ | with_reducible refine Below.drew ?_ | with_reducible refine belowDrewN ?_ _ | with_reducible refine Below.trans ?_ (Below.mono (by assumption) (by first | omega | (simp; done) | (simp; omega)))))))) (first | (go_at_call 138; refine (iSame _ _ m[j] n[j] _ _ hz1 hz2 _ (hR.below (by (repeat (first | with_reducible exact Below.refl _ _ | with_reducible assumption | with_reducible refine Below.setCell ?_ (by first | omega | (simp; done) | (simp; omega)) _ | with_reducible refine Below.alloc ?_ (by first | omega | (simp; done) | (simp; omega)) _ | with_reducible refine Below.drew ?_ | with_reducible refine belowDrewN ?_ _ | with_reducible refine Below.trans ?_ (Below.mono (by assumption) (by first | omega | (simp; done) | (simp; omega))))))) (hR'.below (by (repeat (first | with_reducible exact Below.refl _ _ | with_reducible assumption | with_reducible refine Below.setCell ?_ (by first | omega | (simp; done) | (simp; omega)) _ | with_reducible refine Below.alloc ?_ (by first | omega | (simp; done) | (simp; omega)) _ | with_reducible refine Below.drew ?_ | with_reducible refine belowDrewN ?_ _ | with_reducible refine Below.trans ?_ (Below.mono (by assumption) (by first | omega | (simp; done) | (simp; omega)))))))).mono ?_; rw [hdec]; rintro e wa ⟨rfl, hb⟩))
          all_goals go_wp2
          all_goals go_roundw
          all_goals first
            | exact ⟨j + 1, by go_num, by omega, hnext.out, by (repeat (first | with_reducible exact Below.refl _ _ | with_reducible assumption | with_reducible refine Below.setCell ?_ (by first | omega | (simp; done) | (simp; omega)) _ | with_reducible refine Below.alloc ?_ (by first | omega | (simp; done) | (simp; omega)) _ | with_reducible refine Below.drew ?_ | with_reducible refine belowDrewN ?_ _ | with_reducible refine Below.trans ?_ (Below.mono (by assumption) (by first | omega | (simp; done) | (simp; omega)))))⟩
            | (simp [intOf]; omega)
        · have hdec : decide (m[j] = n[j]) = false := decide_eq_false he
          have hfin : decide (m = n) = false := by
            rw [decide_eq_false_iff_not]
            intro e
            subst e
            exact he rfl
          have HF := Lib.hid hfin
          clear he hfin
          go_wp2
          go_region_held3 (fun w' => Below wr.heap.size wr w' ∧ (∀ b o, b < wr.heap.size → w'.cell? ⟨b, o, none⟩ = wr.cell? ⟨b, o, none⟩) ∧ (∀ b o, b < wr.heap.size → w'.frozen? ⟨b, o, none⟩ = wr.frozen? ⟨b, o, none⟩) ∧ wr.heap.size ≤ w'.heap.size) ((exact bpack (by (repeat (first | with_reducible exact Below.refl _ _ | with_reducible assumption | with_reducible refine Below.setCell ?_ (by first | omega | (simp; done) | (simp; omega)) _ | with_reducible refine Below.alloc ?_ (by first | omega | (simp; done) | (simp; omega)) _ | with_reducible refine Below.drew ?_ | with_reducible refine belowDrewN ?_ _ | with_reducible refine Below.trans ?_ (Below.mono (by assumption) (by first | omega | (simp; done) | (simp; omega)))))))) (first | (go_at_call 138; refine (iSame _ _ m[j] n[j] _ _ hz1 hz2 _ (hR.below (by (repeat (first | with_reducible exact Below.refl _ _ | with_reducible assumption | with_reducible refine Below.setCell ?_ (by first | omega | (simp; done) | (simp; omega)) _ | with_reducible refine Below.alloc ?_ (by first | omega | (simp; done) | (simp; omega)) _ | with_reducible refine Below.drew ?_ | with_reducible refine belowDrewN ?_ _ | with_reducible refine Below.trans ?_ (Below.mono (by assumption) (by first | omega | (simp; done) | (simp; omega))))))) (hR'.below (by (repeat (first | with_reducible exact Below.refl _ _ | with_reducible assumption | with_reducible refine Below.setCell ?_ (by first | omega | (simp; done) | (simp; omega)) _ | with_reducible refine Below.alloc ?_ (by first | omega | (simp; done) | (simp; omega)) _ | with_reducible refine Below.drew ?_ | with_reducible refine belowDrewN ?_ _ | with_reducible refine Below.trans ?_ (Below.mono (by assumption) (by first | omega | (simp; done) | (simp; omega)))))))).mono ?_; rw [hdec]; rintro e wa ⟨rfl, hb⟩))
          all_goals go_wp2
          all_goals go_ret
          all_goals exact ⟨by rw [HF.out]; rfl, by (repeat (first | with_reducible exact Below.refl _ _ | with_reducible assumption | with_reducible refine Below.setCell ?_ (by first | omega | (simp; done) | (simp; omega)) _ | with_reducible refine Below.alloc ?_ (by first | omega | (simp; done) | (simp; omega)) _ | with_reducible refine Below.drew ?_ | with_reducible refine belowDrewN ?_ _ | with_reducible refine Below.trans ?_ (Below.mono (by assumption) (by first | omega | (simp; done) | (simp; omega)))))⟩
      · have hfin : decide (m = n) = true := by
          rw [decide_eq_true_iff]
          exact eq_of_take hj HL.out hinv.out
        go_wp2
        go_ret
        exact ⟨by rw [hfin]; rfl, by (repeat (first | with_reducible exact Below.refl _ _ | with_reducible assumption | with_reducible refine Below.setCell ?_ (by first | omega | (simp; done) | (simp; omega)) _ | with_reducible refine Below.alloc ?_ (by first | omega | (simp; done) | (simp; omega)) _ | with_reducible refine Below.drew ?_ | with_reducible refine belowDrewN ?_ _ | with_reducible refine Below.trans ?_ (Below.mono (by assumption) (by first | omega | (simp; done) | (simp; omega)))))⟩
  · have hl' : ((m.length : Int) != (n.length : Int)) = true := by simp; omega
    have hfin : decide (m = n) = false := by
      rw [decide_eq_false_iff_not]
      intro e
      exact hl (by rw [e])
    go_enter Try.func104, Try.ntmps104
    go_wp2
    go_ret
    exact ⟨by rw [hfin]; rfl, by (repeat (first | with_reducible exact Below.refl _ _ | with_reducible assumption | with_reducible refine Below.setCell ?_ (by first | omega | (simp; done) | (simp; omega)) _ | with_reducible refine Below.alloc ?_ (by first | omega | (simp; done) | (simp; omega)) _ | with_reducible refine Below.drew ?_ | with_reducible refine belowDrewN ?_ _ | with_reducible refine Below.trans ?_ (Below.mono (by assumption) (by first | omega | (simp; done) | (simp; omega)))))⟩

set_option maxHeartbeats 4000000 in
theorem sEqualMatrix (ao bo : Option Addr) (m n : List (List DO)) (cm cn : Nat) (hm : SzM m) (hn : SzM n) (w : World) (h : MtR w ao m) (h' : MtR w bo n) :
    Calls Try.prog 22 #[.slice ao m.length cm, .slice bo n.length cn] w fun e w' => e = .returned (.bool (decide (m = n))) ∧ Below w.heap.size w w' := by
  obtain ⟨hm1, hm2⟩ := hm
  obtain ⟨hn1, hn2⟩ := hn
  by_cases hl : m.length = n.length
  · have hl' : ((m.length : Int) != (n.length : Int)) = false := by simp [hl]
    have HL := Lib.hid hl
    clear hl
    go_enter Try.func22, Try.ntmps22
    go_wp2
    go_loopw [5] (fun x wr => ∃ j : Nat, x = .int .i64 j ∧ j ≤ m.length ∧ Hid (m.take j = n.take j) ∧ Below w.heap.size w wr) (fun x _ => m.length - (intOf x).toNat)
    case atStart => exact ⟨0, rfl, Nat.zero_le _, rfl, by (repeat (first | with_reducible exact Below.refl _ _ | with_reducible assumption | with_reducible refine Below.setCell ?_ (by first | omega | (simp; done) | (simp; omega)) _ | with_reducible refine Below.alloc ?_ (by first | omega | (simp; done) | (simp; omega)) _ | with_reducible refine Below.drew ?_ | with_reducible refine belowDrewN ?_ _ | with_reducible refine Below.trans ?_ (Below.mono (by assumption) (by first | omega | (simp; done) | (simp; omega)))))⟩
    case round =>
      obtain ⟨j, rfl, h0, hinv, hb0⟩ := hrel
      have hs0 := hb0.size
      by_cases hj : j < m.length
      · have hjn : j < n.length := by rw [← HL.out]; exact hj
        obtain ⟨b, o, rfl, hlt, ro, rc, hcell, hR⟩ := (h.below hb0) j hj
        obtain ⟨b', o', rfl, hlt', ro', rc', hcell', hR'⟩ := (h'.below hb0) j hjn
        have hz1 : m[j].length ≤ 1000000000 := by have := hm2 m[j] (List.getElem_mem _); omega
        have hz2 : n[j].length ≤ 1000000000 := by have := hn2 n[j] (List.getElem_mem _); omega
        clear h h'
        by_cases he : m[j] = n[j]
        · have hnext := Lib.hid (take_eq_succ hj hjn hinv.out he)
          have hdec : decide (m[j] = n[j]) = true := decide_eq_true he
          clear he
          go_wp2
          go_region_held3 (fun w' => Below wr.heap.size wr w' ∧ (∀ b o, b < wr.heap.size → w'.cell? ⟨b, o, none⟩ = wr.cell? ⟨b, o, none⟩) ∧ (∀ b o, b < wr.heap.size → w'.frozen? ⟨b, o, none⟩ = wr.frozen? ⟨b, o, none⟩) ∧ wr.heap.size ≤ w'.heap.size) ((exact bpack (by (repeat (first | with_reducible exact Below.refl _ _ | with_reducible assumption | with_reducible refine Below.setCell ?_ (by first | omega | (simp; done) | (simp; omega)) _ | with_reducible refine Below.alloc ?_ (by first | omega | (simp; done) | (simp; omega)) _ | with_reducible refine Below.drew ?_ | with_reducible refine belowDrewN ?_ _ | with_reducible refine Below.trans ?_ (Below.mono (by assumption) (by first | omega | (simp; done) | (simp; omega)))))))) (first | (go_at_call 66; refine (sEqualState _ _ m[j] n[j] _ _ hz1 hz2 _ (hR.below (by (repeat (first | with_reducible exact Below.refl _ _ | with_reducible assumption | with_reducible refine Below.setCell ?_ (by first | omega | (simp; done) | (simp; omega)) _ | with_reducible refine Below.alloc ?_ (by first | omega | (simp; done) | (simp; omega)) _ | with_reducible refine Below.drew ?_ | with_reducible refine belowDrewN ?_ _ | with_reducible refine Below.trans ?_ (Below.mono (by assumption) (by first | omega | (simp; done) | (simp; omega))))))) (hR'.below (by (repeat (first | with_reducible exact Below.refl _ _ | with_reducible assumption | with_reducible refine Below.setCell ?_ (by first | omega | (simp; done) | (simp; omega)) _ | with_reducible refine Below.alloc ?_ (by first | omega | (simp; done) | (simp; omega)) _ | with_reducible refine Below.drew ?_ | with_reducible refine belowDrewN ?_ _ | with_reducible refine Below.trans ?_ (Below.mono (by assumption) (by first | omega | (simp; done) | (simp; omega)))))))).mono ?_; rw [hdec]; rintro e wa ⟨rfl, hb⟩))
          all_goals go_wp2
          all_goals go_roundw
          all_goals first
            | exact ⟨j + 1, by go_num, by omega, hnext.out, by (repeat (first | with_reducible exact Below.refl _ _ | with_reducible assumption | with_reducible refine Below.setCell ?_ (by first | omega | (simp; done) | (simp; omega)) _ | with_reducible refine Below.alloc ?_ (by first | omega | (simp; done) | (simp; omega)) _ | with_reducible refine Below.drew ?_ | with_reducible refine belowDrewN ?_ _ | with_reducible refine Below.trans ?_ (Below.mono (by assumption) (by first | omega | (simp; done) | (simp; omega)))))⟩
            | (simp [intOf]; omega)
        · have hdec : decide (m[j] = n[j]) = false := decide_eq_false he
          have hfin : decide (m = n) = false := by
            rw [decide_eq_false_iff_not]
            intro e
            subst e
            exact he rfl
          have HF := Lib.hid hfin
          clear he hfin
          go_wp2
          go_region_held3 (fun w' => Below wr.heap.size wr w' ∧ (∀ b o, b < wr.heap.size → w'.cell? ⟨b, o, none⟩ = wr.cell? ⟨b, o, none⟩) ∧ (∀ b o, b < wr.heap.size → w'.frozen? ⟨b, o, none⟩ = wr.frozen? ⟨b, o, none⟩) ∧ wr.heap.size ≤ w'.heap.size) ((exact bpack (by (repeat (first | with_reducible exact Below.refl _ _ | with_reducible assumption | with_reducible refine Below.setCell ?_ (by first | omega | (simp; done) | (simp; omega)) _ | with_reducible refine Below.alloc ?_ (by first | omega | (simp; done) | (simp; omega)) _ | with_reducible refine Below.drew ?_ | with_reducible refine belowDrewN ?_ _ | with_reducible refine Below.trans ?_ (Below.mono (by assumption) (by first | omega | (simp; done) | (simp; omega)))))))) (first | (go_at_call 66; refine (sEqualState _ _ m[j] n[j] _ _ hz1 hz2 _ (hR.below (by (repeat (first | with_reducible exact Below.refl _ _ | with_reducible assumption | with_reducible refine Below.setCell ?_ (by first | omega | (simp; done) | (simp; omega)) _ | with_reducible refine Below.alloc ?_ (by first | omega | (simp; done) | (simp; omega)) _ | with_reducible refine Below.drew ?_ | with_reducible refine belowDrewN ?_ _ | with_reducible refine Below.trans ?_ (Below.mono (by assumption) (by first | omega | (simp; done) | (simp; omega))))))) (hR'.below (by (repeat (first | with_reducible exact Below.refl _ _ | with_reducible assumption | with_reducible refine Below.setCell ?_ (by first | omega | (simp; done) | (simp; omega)) _ | with_reducible refine Below.alloc ?_ (by first | omega | (simp; done) | (simp; omega)) _ | with_reducible refine Below.drew ?_ | with_reducible refine belowDrewN ?_ _ | with_reducible refine Below.trans ?_ (Below.mono (by assumption) (by first | omega | (simp; done) | (simp; omega)))))))).mono ?_; rw [hdec]; rintro e wa ⟨rfl, hb⟩))
          all_goals go_wp2
          all_goals go_ret
          all_goals exact ⟨by rw [HF.out]; rfl, by (repeat (first | with_reducible exact Below.refl _ _ | with_reducible assumption | with_reducible refine Below.setCell ?_ (by first | omega | (simp; done) | (simp; omega)) _ | with_reducible refine Below.alloc ?_ (by first | omega | (simp; done) | (simp; omega)) _ | with_reducible refine Below.drew ?_ | with_reducible refine belowDrewN ?_ _ | with_reducible refine Below.trans ?_ (Below.mono (by assumption) (by first | omega | (simp; done) | (simp; omega)))))⟩
      · have hfin : decide (m = n) = true := by
          rw [decide_eq_true_iff]
          exact eq_of_take hj HL.out hinv.out
        go_wp2
        go_ret
        exact ⟨by rw [hfin]; rfl, by (repeat (first | with_reducible exact Below.refl _ _ | with_reducible assumption | with_reducible refine Below.setCell ?_ (by first | omega | (simp; done) | (simp; omega)) _ | with_reducible refine Below.alloc ?_ (by first | omega | (simp; done) | (simp; omega)) _ | with_reducible refine Below.drew ?_ | with_reducible refine belowDrewN ?_ _ | with_reducible refine Below.trans ?_ (Below.mono (by assumption) (by first | omega | (simp; done) | (simp; omega)))))⟩
  · have hl' : ((m.length : Int) != (n.length : Int)) = true := by simp; omega
    have hfin : decide (m = n) = false := by
      rw [decide_eq_false_iff_not]
      intro e
      exact hl (by rw [e])
    go_enter Try.func22, Try.ntmps22
    go_wp2
    go_ret
    exact ⟨by rw [hfin]; rfl, by (repeat (first | with_reducible exact Below.refl _ _ | with_reducible assumption | with_reducible refine Below.setCell ?_ (by first | omega | (simp; done) | (simp; omega)) _ | with_reducible refine Below.alloc ?_ (by first | omega | (simp; done) | (simp; omega)) _ | with_reducible refine Below.drew ?_ | with_reducible refine belowDrewN ?_ _ | with_reducible refine Below.trans ?_ (Below.mono (by assumption) (by first | omega | (simp; done) | (simp; omega)))))⟩

end Go.Proofs.Yteckhaafdojoeaa

/-! S8: The product of a matrix and a state; the product of two matrices. -/
namespace Go.Proofs.Yteckhaafdojoeaa
open Go.RowKit

def applyM (m : List (List DO)) (v : List DO) : List DO × Bool :=
  if okM m && (okS v && decide (m.length = v.length)) then (if m.all (fun r => (dot r v).2) then (m.map (fun r => (dot r v).1), true) else ([], false)) else ([], false)
def mulM (a b : List (List DO)) : List (List DO) × Bool :=
  if okM a && (okM b && decide (a.length = b.length)) then (if (flip b).all (fun c => (applyM a c).2) then (flip ((flip b).map fun c => (applyM a c).1), true) else ([], false)) else ([], false)

theorem qc_le {n : Nat} (h : ¬ qc n = 0) : n ≤ 16 := by
  unfold qc at h
  repeat' split at h
  all_goals omega
theorem okS_len {l : List DO} (h : okS l = true) : l.length ≤ 16 := by
  rw [okS, Bool.and_eq_true] at h
  exact qc_le (by simpa using h.1)
theorem okM_rows {m : List (List DO)} (h : okM m = true) {r : List DO} (hr : r ∈ m) : r.length = m.length ∧ okS r = true := by
  rw [okM, Bool.and_eq_true, List.all_eq_true] at h
  simpa using h.1 r hr
theorem okM_pos {m : List (List DO)} (h : okM m = true) : 0 < m.length := by
  rw [okM, Bool.and_eq_true] at h
  simpa using h.2
theorem okM_len {m : List (List DO)} (h : okM m = true) : m.length ≤ 16 := by
  have h0 := okM_pos h
  have := okM_rows h (List.getElem_mem h0)
  have := okS_len this.2
  omega
theorem all_step' {α : Type} {l : List α} {f : α → Bool} {j : Nat} (h : ∀ i (hi : i < l.length), i < j → f l[i] = true) {hj : j < l.length} (hx : f l[j] = true) : ∀ i (hi : i < l.length), i < j + 1 → f l[i] = true := fun i hi hij => by
  by_cases e : i = j
  · subst e; exact hx
  · exact h i hi (by omega)
theorem all_of {α : Type} {l : List α} {f : α → Bool} (h : ∀ i (hi : i < l.length), f l[i] = true) : l.all f = true := by
  rw [List.all_eq_true]
  intro x hx
  obtain ⟨i, hi, rfl⟩ := List.getElem_of_mem hx
  exact h i hi
theorem all_not {α : Type} {l : List α} {f : α → Bool} {j : Nat} (hj : j < l.length) (h : ¬ f l[j] = true) : l.all f = false := by
  rw [List.all_eq_false]
  exact ⟨l[j], List.getElem_mem _, h⟩
theorem map_take_snoc {α β : Type} (l : List α) (f : α → β) (j : Nat) (hj : j < l.length) : (l.map f).take (j + 1) = (l.map f).take j ++ [f l[j]] := by
  rw [List.take_succ_eq_append_getElem (by simpa using hj)]
  simp

theorem applyM_no {m : List (List DO)} {v : List DO} (h : (okM m && (okS v && decide (m.length = v.length))) = false) : applyM m v = ([], false) := by
  rw [applyM, h]; rfl
theorem applyM_fail {m : List (List DO)} {v : List DO} (h1 : okM m = true) (h2 : okS v = true) (h3 : m.length = v.length) (h : m.all (fun r => (dot r v).2) = false) : applyM m v = ([], false) := by
  rw [applyM, h1, h2, h, decide_eq_true h3]; rfl
theorem applyM_yes {m : List (List DO)} {v : List DO} (h1 : okM m = true) (h2 : okS v = true) (h3 : m.length = v.length) (h : m.all (fun r => (dot r v).2) = true) : applyM m v = (m.map (fun r => (dot r v).1), true) := by
  rw [applyM, h1, h2, h, decide_eq_true h3]; rfl
theorem at_new' (w : World) (xs : List Value) (t : TypeId) {b : Nat} (hb : b = w.heap.size) : ∀ j u, xs[j]? = some u → (w.alloc (.cells xs.toArray t)).cell? ((⟨b, 0, none⟩ : Addr).add j) = some u := hb ▸ at_new w xs t

set_option maxHeartbeats 4000000 in
theorem iApplyMatrix (ao bo : Option Addr) (m : List (List DO)) (v : List DO) (cm cv : Nat) (hz : SzM m) (hv : v.length ≤ 2000000) (w : World) (h : MtR w ao m) (h' : StR w bo v) :
    Calls Try.prog 71 #[.slice ao m.length cm, .slice bo v.length cv] w fun e w' => ∃ x, e = .returned (.tuple #[x, .bool (applyM m v).2]) ∧ OwnS w' w.heap.size x (applyM m v).1 ∧ Below w.heap.size w w' := by
  obtain ⟨iD, hiD, hzD0, hzD1, hzD2⟩ := info_parts infoD
  by_cases hm : okM m = true
  · by_cases hs : okS v = true
    · by_cases hl : m.length = v.length
      · have hl' : ((m.length : Int) != (v.length : Int)) = false := by simp [hl]
        have hrl := fun r hr => (okM_rows (r := r) hm hr).1
        have hml := okM_len hm
        have HL := Lib.hid hl
        have HR := Lib.hid hrl
        clear hl hrl
        go_enter Try.func71, Try.ntmps71
        go_wp2_with fail
        refine (iIsValidMatrix _ _ _ hz _ h).mono ?_
        rintro e w1 ⟨rfl, hb1⟩
        go_wp2_with fail
        refine (iIsValidState _ _ _ (by omega) _ (h'.below hb1)).mono ?_
        rintro e w2 ⟨rfl, hb2⟩
        have hb3 : Below w.heap.size w w2 := hb1.trans (hb2.mono hb1.size)
        have hs3 := hb3.size
        clear hb1 hb2
        go_wp2
        go_loopw [6, 29] (fun r x wr => ∃ j : Nat, x = .int .i64 j ∧ j ≤ m.length ∧ Hid (∀ i (hi : i < m.length), i < j → (fun r => (dot r v).2) m[i] = true) ∧ OwnS wr w.heap.size r ((m.map fun r => (dot r v).1).take j) ∧ Below w.heap.size w wr) (fun _ x _ => m.length - (intOf x).toNat)
        case atStart => exact ⟨0, rfl, Nat.zero_le _, fun _ _ h => absurd h (Nat.not_lt_zero _), OwnS.empty hs3, by (repeat (first | with_reducible exact Below.refl _ _ | with_reducible assumption | with_reducible refine Below.setCell ?_ (by first | omega | (simp; done) | (simp; omega)) _ | with_reducible refine Below.alloc ?_ (by first | omega | (simp; done) | (simp; omega)) _ | with_reducible refine Below.drew ?_ | with_reducible refine belowDrewN ?_ _ | with_reducible refine Below.trans ?_ (Below.mono (by assumption) (by first | omega | (simp; done) | (simp; omega)))))⟩
        case round =>
          obtain ⟨j, rfl, h0, hinv, hS, hb0⟩ := hrel
          have hs0 := hb0.size
          by_cases hj : j < m.length
          · obtain ⟨b, o, rfl, hlt, ro, rc, hcell, hR⟩ := (h.below hb0) j hj
            have hlj : m[j].length ≤ v.length := by have h1 := HR.out m[j] (List.getElem_mem _); have h2 := HL.out; omega
            have hz3 : m[j].length ≤ 1000000000 := by omega
            have hlen : ((m.map fun r => (dot r v).1).take j).length = j := by rw [List.length_take, List.length_map]; omega
            by_cases hd : (dot m[j] v).2 = true
            · go_wp2_with fail
              refine (iDot _ _ _ _ _ _ hz3 (by omega) hlj _ hR (h'.below hb0)).mono ?_
              rintro e w4 ⟨rfl, hb4⟩
              have hS4 := hS.below hb4 (Nat.le_refl _)
              have hb5 : Below w.heap.size w w4 := hb0.trans (hb4.mono hs0)
              have hs5 := hb5.size
              clear hS hcell h h'
              go_wp2_with (first | (at_builtin; refine wpList_append_own _ rfl _ _ 56 rfl w.heap.size TD iD _ 5 40 Try.underlying56 hiD hzD0 hzD1 hzD2 rfl (by decide) _ _ _ rfl (World.ownsRow.alloc (World.ownsRow.alloc hS4 _) _) ⟨w4.heap.size + 1, 0, none⟩ 1 1 (dcells (dot m[j] v).1) rfl rfl ?c1 ?c2 ?c3 ?c4 ?c5 ?_))
              case c1 => exact at_new' _ (dcells (dot m[j] v).1) _ (by simp)
              case c2 => exact dcells_one _
              case c3 => rw [hlen]; unfold maxLen; omega
              case c4 => rw [hlen]; omega
              case c5 => simp; omega
              intro v' w' hown' hgrow _
              have hS' : OwnS w' w.heap.size v' ((m.map fun r => (dot r v).1).take (j + 1)) := by
                rw [map_take_snoc _ _ _ hj]
                exact OwnS.snoc (by rw [hlen]; exact hown')
              have hb' : Below w.heap.size w w' := ((hb5.alloc hs5 _).alloc (by simp; omega) _).grown hgrow (by simp; omega) fun k hk => (World.ownsRow.lt hS4 k hk).1
              clear hown' hgrow hS4
              go_wp2
              go_roundw
              case rel => exact ⟨j + 1, by go_num, by omega, all_step' (f := fun r => (dot r v).2) hinv.out hd, hS', hb'⟩
              case measure => simp [intOf]; omega
            · have hfin := Lib.hid (applyM_fail hm hs HL.out (all_not hj hd))
              go_wp2_with fail
              refine (iDot _ _ _ _ _ _ hz3 (by omega) hlj _ hR (h'.below hb0)).mono ?_
              rintro e w4 ⟨rfl, hb4⟩
              have hs4 := hb4.size
              go_wp2
              go_ret2
              exact ⟨.slice none 0 0, by rw [hfin.out]; rfl, by rw [hfin.out]; exact OwnS.nil _ _, by (repeat (first | with_reducible exact Below.refl _ _ | with_reducible assumption | with_reducible refine Below.setCell ?_ (by first | omega | (simp; done) | (simp; omega)) _ | with_reducible refine Below.alloc ?_ (by first | omega | (simp; done) | (simp; omega)) _ | with_reducible refine Below.drew ?_ | with_reducible refine belowDrewN ?_ _ | with_reducible refine Below.trans ?_ (Below.mono (by assumption) (by first | omega | (simp; done) | (simp; omega)))))⟩
          · have hfin := Lib.hid (applyM_yes hm hs HL.out (all_of (fun i hi => hinv.out i hi (by omega))))
            have hjm : j = m.length := by omega
            subst hjm
            have htk : (m.map fun r => (dot r v).1).take m.length = m.map fun r => (dot r v).1 := List.take_of_length_le (by simp)
            rw [htk] at hS
            go_wp2
            go_ret2
            have hS2 := hS
            rw [show (m.map fun r => (dot r v).1) = (applyM m v).1 by rw [hfin.out]] at hS2
            exact ⟨_, by rw [hfin.out]; rfl, hS2, by (repeat (first | with_reducible exact Below.refl _ _ | with_reducible assumption | with_reducible refine Below.setCell ?_ (by first | omega | (simp; done) | (simp; omega)) _ | with_reducible refine Below.alloc ?_ (by first | omega | (simp; done) | (simp; omega)) _ | with_reducible refine Below.drew ?_ | with_reducible refine belowDrewN ?_ _ | with_reducible refine Below.trans ?_ (Below.mono (by assumption) (by first | omega | (simp; done) | (simp; omega)))))⟩
      · have hl' : ((m.length : Int) != (v.length : Int)) = true := by simp; omega
        have hfin := Lib.hid (applyM_no (m := m) (v := v) (by simp [hl]))
        clear hl
        go_enter Try.func71, Try.ntmps71
        go_wp2_with fail
        refine (iIsValidMatrix _ _ _ hz _ h).mono ?_
        rintro e w1 ⟨rfl, hb1⟩
        go_wp2_with fail
        refine (iIsValidState _ _ _ (by omega) _ (h'.below hb1)).mono ?_
        rintro e w2 ⟨rfl, hb2⟩
        have hs1 := hb1.size
        go_wp2
        go_ret2
        exact ⟨.slice none 0 0, by rw [hfin.out]; rfl, by rw [hfin.out]; exact OwnS.nil _ _, by (repeat (first | with_reducible exact Below.refl _ _ | with_reducible assumption | with_reducible refine Below.setCell ?_ (by first | omega | (simp; done) | (simp; omega)) _ | with_reducible refine Below.alloc ?_ (by first | omega | (simp; done) | (simp; omega)) _ | with_reducible refine Below.drew ?_ | with_reducible refine belowDrewN ?_ _ | with_reducible refine Below.trans ?_ (Below.mono (by assumption) (by first | omega | (simp; done) | (simp; omega)))))⟩
    · have hfin := Lib.hid (applyM_no (m := m) (v := v) (by simp [hs]))
      go_enter Try.func71, Try.ntmps71
      go_wp2_with fail
      refine (iIsValidMatrix _ _ _ hz _ h).mono ?_
      rintro e w1 ⟨rfl, hb1⟩
      go_wp2_with fail
      refine (iIsValidState _ _ _ (by omega) _ (h'.below hb1)).mono ?_
      rintro e w2 ⟨rfl, hb2⟩
      have hs1 := hb1.size
      go_wp2
      go_ret2
      exact ⟨.slice none 0 0, by rw [hfin.out]; rfl, by rw [hfin.out]; exact OwnS.nil _ _, by (repeat (first | with_reducible exact Below.refl _ _ | with_reducible assumption | with_reducible refine Below.setCell ?_ (by first | omega | (simp; done) | (simp; omega)) _ | with_reducible refine Below.alloc ?_ (by first | omega | (simp; done) | (simp; omega)) _ | with_reducible refine Below.drew ?_ | with_reducible refine belowDrewN ?_ _ | with_reducible refine Below.trans ?_ (Below.mono (by assumption) (by first | omega | (simp; done) | (simp; omega)))))⟩
  · have hfin := Lib.hid (applyM_no (m := m) (v := v) (by simp [hm]))
    go_enter Try.func71, Try.ntmps71
    go_wp2_with fail
    refine (iIsValidMatrix _ _ _ hz _ h).mono ?_
    rintro e w1 ⟨rfl, hb1⟩
    go_wp2
    go_ret2
    exact ⟨.slice none 0 0, by rw [hfin.out]; rfl, by rw [hfin.out]; exact OwnS.nil _ _, by (repeat (first | with_reducible exact Below.refl _ _ | with_reducible assumption | with_reducible refine Below.setCell ?_ (by first | omega | (simp; done) | (simp; omega)) _ | with_reducible refine Below.alloc ?_ (by first | omega | (simp; done) | (simp; omega)) _ | with_reducible refine Below.drew ?_ | with_reducible refine belowDrewN ?_ _ | with_reducible refine Below.trans ?_ (Below.mono (by assumption) (by first | omega | (simp; done) | (simp; omega)))))⟩

end Go.Proofs.Yteckhaafdojoeaa

/-! W3: The law on append to a row of our own, with one part more: the new row lies in the old one's block, or in a new one. -/
namespace Go.Proofs.Yteckhaafdojoeaa

theorem grown_none {w w' : World} (h : w.grownBy w' none) (row : Option Nat) : w.grownBy w' row :=
  ⟨h.os, h.tape, h.output, h.size, fun k hk _ => h.block k hk (by simp)⟩
theorem ownsRow_mono {w : World} {base base' e size n : Nat} {v : Value} {xs : List Value} (h : w.ownsRow base e size v n xs) (hb : base' ≤ base) : w.ownsRow base' e size v n xs := by
  refine ⟨h.1, ?_⟩
  rcases h.2 with h0 | ⟨g, cap, cur, hv, hbg, r⟩
  · exact .inl h0
  · exact .inr ⟨g, cap, cur, hv, Nat.le_trans hb hbg, r⟩

theorem wpList_append2 {P : Program} (w : World) {ops : Array Oper} {rest : List Oper} {o : Oper} {a : Act} {Q : Exit → Act → World → Prop} (hgd : o.guard = none) (s x : Operand) (t : TypeId)
    (ho : o.op = .call { callee := .builtin .append, args := #[s, x], argTypes := #[t, t] })
    (base : Nat) (e : TypeId) (i : TypeInfo) (z : Value) (size bytes : Nat) (ht : P.underlying t = some (.slice e)) (hi : P.info? e = some i) (hz : i.zero = some z)
    (hsize : i.size = size) (hby : i.bytes = bytes) (hzs : z.cells.size = size) (hsz : 0 < size)
    (v : Value) (n : Nat) (xs : List Value) (hs : a.eval s = v) (hown : w.ownsRow base e size v n xs)
    (ad : Addr) (m c : Nat) (hm : 0 < m) (news : List Value) (hx : a.eval x = .slice (some ad) m c) (hl : news.length = m * size) (hnews : ∀ j u, news[j]? = some u → w.cell? (ad.add j) = some u) (h1 : ∀ u ∈ news, u.oneCell' = true)
    (h63 : n + m ≤ maxLen) (hbytes : (n + m) * bytes ≤ 140737488355328) (hbase : base ≤ w.heap.size)
    (h : ∀ v' w', w'.ownsRow base e size v' (n + m) (xs ++ news) → w.grownBy w' v.ownBlock → (v'.ownBlock = v.ownBlock ∨ ∀ g, v'.ownBlock = some g → w.heap.size ≤ g) → wpList P ops Q rest (a.put o.dst v') w') : wpList P ops Q (o :: rest) a w := by
  have hown' := hown
  obtain ⟨hxl, hr⟩ := hown
  rcases hr with ⟨rfl, rfl⟩ | ⟨g, cap, cur, rfl, hbg, hg, hn, hc, hcs, htk⟩
  · refine wpList_append_grows w hgd s x t ho e i z size bytes ht hi hz hsize hby hzs hsz none 0 0 xs hs (fun _ => ⟨rfl, rfl⟩) hxl (fun b hb => by cases hb) ad m c news hx hl hnews h1 (by omega) h63 hbytes ?_
    intro v' w' h2 h3
    exact h v' w' (ownsRow_mono h2 hbase) h3 (.inr fun g hg => (World.ownsRow.lt h2 g hg).1)
  · by_cases hfit : n + m ≤ cap
    · refine wpList_append_fits w hgd s x t ho base e i size ht hi hsize g n cap xs hs hown' ad m c news hx hl hnews h1 hfit ?_
      intro w' h2 h3
      exact h _ w' h2 h3 (.inl rfl)
    · refine wpList_append_grows w hgd s x t ho e i z size bytes ht hi hz hsize hby hzs hsz (some ⟨g, 0, none⟩) n cap xs hs (fun hh => by cases hh) hxl (fun b hb j u hu => by
        obtain rfl := Option.some.inj hb
        exact hown'.cells rfl j u hu) ad m c news hx hl hnews h1 (by omega) h63 hbytes ?_
      intro v' w' h2 h3
      exact h v' w' (ownsRow_mono h2 hbase) (grown_none h3 _) (.inr fun g hg => (World.ownsRow.lt h2 g hg).1)

end Go.Proofs.Yteckhaafdojoeaa

/-! S9: The product of two matrices (impl). -/
namespace Go.Proofs.Yteckhaafdojoeaa
open Go.RowKit

theorem mulM_no {a b : List (List DO)} (h : (okM a && (okM b && decide (a.length = b.length))) = false) : mulM a b = ([], false) := by
  rw [mulM, h]; rfl
theorem mulM_fail {a b : List (List DO)} (h1 : okM a = true) (h2 : okM b = true) (h3 : a.length = b.length) (h : (flip b).all (fun c => (applyM a c).2) = false) : mulM a b = ([], false) := by
  rw [mulM, h1, h2, h, decide_eq_true h3]; rfl
theorem mulM_yes {a b : List (List DO)} (h1 : okM a = true) (h2 : okM b = true) (h3 : a.length = b.length) (h : (flip b).all (fun c => (applyM a c).2) = true) : mulM a b = (flip ((flip b).map fun c => (applyM a c).1), true) := by
  rw [mulM, h1, h2, h, decide_eq_true h3]; rfl
theorem applyM_length {m : List (List DO)} {v : List DO} (h : (applyM m v).2 = true) : (applyM m v).1.length = m.length := by
  unfold applyM at *
  split at h
  · rename_i h1
    rw [if_pos h1]
    split at h
    · rename_i h2; rw [if_pos h2]; simp
    · simp at h
  · simp at h
theorem flip_get {m : List (List DO)} {k : Nat} (hk : k < (flip m).length) : (flip m)[k] = colAt m k := by simp [flip]
theorem mem_flip_length {m : List (List DO)} {r : List DO} (h : r ∈ flip m) : r.length = m.length := by
  simp only [flip, List.mem_map] at h
  obtain ⟨i, _, rfl⟩ := h
  exact colAt_length m i

theorem OwnM.nil (w : World) (base : Nat) : OwnM w base (.slice none 0 0) [] :=
  ⟨[], World.ownsRow_nil _ _ _ _, fun i hi => absurd hi (Nat.not_lt_zero _), fun i j x y _ hx => by simp at hx⟩
theorem OwnM.mono {w : World} {base base' : Nat} {v : Value} {m : List (List DO)} (h : OwnM w base v m) (hb : base' ≤ base) : OwnM w base' v m := by
  obtain ⟨vs, ho, hr, hd⟩ := h
  exact ⟨vs, ownsRow_mono ho hb, fun i hi => (hr i hi).imp fun x hx => ⟨hx.1, hx.2.mono hb⟩, hd⟩
theorem OwnS.frame {w w' : World} {base : Nat} {v : Value} {l : List DO} (h : OwnS w base v l) (hf : ∀ g, base ≤ g → g < w.heap.size → w'.heap[g]? = w.heap[g]?) : OwnS w' base v l := by
  refine ⟨h.1, ?_⟩
  rcases h.2 with h0 | ⟨g, cap, cur, hv, hbg, hg, r⟩
  · exact .inl h0
  · exact .inr ⟨g, cap, cur, hv, hbg, by rw [hf g hbg (Array.getElem?_eq_some_iff.1 hg).1, hg], r⟩
theorem OwnM.frame {w w' : World} {base : Nat} {v : Value} {m : List (List DO)} (h : OwnM w base v m) (hf : ∀ g, base ≤ g → g < w.heap.size → w'.heap[g]? = w.heap[g]?) : OwnM w' base v m := by
  obtain ⟨vs, ho, hr, hd⟩ := h
  refine ⟨vs, ⟨ho.1, ?_⟩, fun i hi => (hr i hi).imp fun x hx => ⟨hx.1, hx.2.frame hf⟩, hd⟩
  rcases ho.2 with h0 | ⟨g, cap, cur, hv, hbg, hg, r⟩
  · exact .inl h0
  · exact .inr ⟨g, cap, cur, hv, hbg, by rw [hf g hbg (Array.getElem?_eq_some_iff.1 hg).1, hg], r⟩
theorem OwnM.readAt {w : World} {base : Nat} {ao : Option Addr} {n cap : Nat} {m : List (List DO)} (h : OwnM w base (.slice ao n cap) m) : MtR w ao m := by
  obtain ⟨ao', cap', he, hR, _⟩ := h.read
  cases he
  exact hR
/-- The block of what an append to our own row leaves, and the blocks between. -/
theorem between_append {w w1 w2 : World} {lo hi : Nat} {v : Value} {ob : Obj} {w0 : World} (hfr : ∀ g, lo < g → g < hi → w.heap[g]? = w0.heap[g]?) (hhi : hi ≤ w.heap.size) (hb : Below w.heap.size w w1)
    (hv : ∀ g, v.ownBlock = some g → g = lo ∨ hi ≤ g) (hg : (w1.alloc ob).grownBy w2 v.ownBlock) : ∀ g, lo < g → g < hi → w2.heap[g]? = w0.heap[g]? := fun g h1 h2 => by
  have hs := hb.size
  rw [hg.block g (by simp; omega) (fun e => by have := hv g e.symm; omega), Below.heap_alloc _ _ _ (by omega), hb.block g (by omega), hfr g h1 h2]
theorem block_append {w w1 : World} {lo hi : Nat} {v v' : Value} (hhi : hi ≤ w.heap.size) (hs : w.heap.size ≤ w1.heap.size) (hv : ∀ g, v.ownBlock = some g → g = lo ∨ hi ≤ g)
    (h : v'.ownBlock = v.ownBlock ∨ ∀ g, v'.ownBlock = some g → w1.heap.size + 1 ≤ g) : ∀ g, v'.ownBlock = some g → g = lo ∨ hi ≤ g := fun g hg => by
  rcases h with h | h
  · exact hv g (h ▸ hg)
  · have := h g hg
    omega

set_option maxRecDepth 100000 in
set_option maxHeartbeats 4000000 in
theorem iMulMatrix (ao bo : Option Addr) (a b : List (List DO)) (ca cb : Nat) (hza : SzM a) (hzb : SzM b) (w : World) (h : MtR w ao a) (h' : MtR w bo b) :
    Calls Try.prog 32 #[.slice ao a.length ca, .slice bo b.length cb] w fun e w' => ∃ x, e = .returned (.tuple #[x, .bool (mulM a b).2]) ∧ OwnM w' w.heap.size x (mulM a b).1 ∧ Below w.heap.size w w' := by
  obtain ⟨iS, hiS, hzS0, hzS1, hzS2⟩ := info_parts infoS
  by_cases hA : okM a = true
  · by_cases hB : okM b = true
    · by_cases hl : a.length = b.length
      · have hl' : ((a.length : Int) != (b.length : Int)) = false := by simp [hl]
        have hbl := okM_len hB
        have hal := okM_len hA
        have HL := Lib.hid hl
        clear hl
        go_enter Try.func32, Try.ntmps32
        go_wp2_with fail
        refine (iIsValidMatrix _ _ _ hza _ h).mono ?_
        rintro e w1 ⟨rfl, hb1⟩
        go_wp2_with fail
        refine (iIsValidMatrix _ _ _ hzb _ (h'.below hb1)).mono ?_
        rintro e w2 ⟨rfl, hb2⟩
        have hb3 : Below w.heap.size w w2 := hb1.trans (hb2.mono hb1.size)
        have hs3 := hb3.size
        clear hb1 hb2
        go_wp2_with fail
        refine (iFlipped _ b _ (by omega) (fun r hr => by have := (okM_rows hB hr).1; omega) _ (h'.below (by (repeat (first | with_reducible exact Below.refl _ _ | with_reducible assumption | with_reducible refine Below.setCell ?_ (by first | omega | (simp; done) | (simp; omega)) _ | with_reducible refine Below.alloc ?_ (by first | omega | (simp; done) | (simp; omega)) _ | with_reducible refine Below.drew ?_ | with_reducible refine belowDrewN ?_ _ | with_reducible refine Below.trans ?_ (Below.mono (by assumption) (by first | omega | (simp; done) | (simp; omega)))))))).mono ?_
        rintro e w4 ⟨fv, rfl, hF, hb4⟩
        obtain ⟨fo, fc, rfl, hFR, _, _⟩ := hF.read
        have hfl : (flip b).length = b.length := flip_length b
        have hb5 : Below w.heap.size w w4 := by (repeat (first | with_reducible exact Below.refl _ _ | with_reducible assumption | with_reducible refine Below.setCell ?_ (by first | omega | (simp; done) | (simp; omega)) _ | with_reducible refine Below.alloc ?_ (by first | omega | (simp; done) | (simp; omega)) _ | with_reducible refine Below.drew ?_ | with_reducible refine belowDrewN ?_ _ | with_reducible refine Below.trans ?_ (Below.mono (by assumption) (by first | omega | (simp; done) | (simp; omega)))))
        have hs5 := hb5.size
        have hs4 := hb4.size
        simp only [World.size_alloc] at hs4 hF
        have hown0 : OwnM w4 w.heap.size (.slice (some ⟨w2.heap.size, 0, none⟩) 0 0) [] := (OwnM.empty hs3).below hb4 (Nat.le_refl _)
        clear hb4 hb3 hFR
        rw [hfl] at hF ⊢
        go_wp2
        go_loopw [6, 30] (fun r x wr => ∃ k : Nat, x = .int .i64 k ∧ k ≤ b.length ∧ Hid (∀ i (hi : i < (flip b).length), i < k → (fun c => (applyM a c).2) (flip b)[i] = true) ∧ OwnM wr w.heap.size r (((flip b).map fun c => (applyM a c).1).take k) ∧
          Hid (∀ g, r.ownBlock = some g → g = w2.heap.size ∨ w4.heap.size ≤ g) ∧ Hid (∀ g, w2.heap.size < g → g < w4.heap.size → wr.heap[g]? = w4.heap[g]?) ∧ w4.heap.size ≤ wr.heap.size ∧ Below w.heap.size w wr) (fun _ x _ => b.length - (intOf x).toNat)
        case atStart => exact ⟨0, rfl, Nat.zero_le _, fun _ _ h => absurd h (Nat.not_lt_zero _), hown0, fun g hg => .inl (by simpa [Value.ownBlock] using hg.symm), fun _ _ _ => rfl, Nat.le_refl _, hb5⟩
        case round =>
          obtain ⟨k, rfl, h0, hinv, hM, hblk, hfr, hs0, hb6⟩ := hrel
          have hs6 := hb6.size
          have hFR := (hF.frame fun g h1 h2 => hfr.out g (by omega) h2).readAt
          by_cases hk : k < b.length
          · have hk' : k < (flip b).length := by omega
            obtain ⟨b', o', rfl, hlt, ro, rc, hcell, hR⟩ := hFR k hk'
            have hcl : ((flip b)[k]).length ≤ 2000000 := by rw [flip_get, colAt_length]; omega
            have hlen : (((flip b).map fun c => (applyM a c).1).take k).length = k := by rw [List.length_take, List.length_map]; omega
            by_cases hd : (applyM a (flip b)[k]).2 = true
            · go_wp2_with fail
              refine (iApplyMatrix _ _ a (flip b)[k] _ _ hza hcl _ (h.below hb6) hR).mono ?_
              rintro e w7 ⟨x, rfl, hx, hb7⟩
              obtain ⟨vs, ho, hrows, hdist⟩ := hM
              have hb8 : Below w.heap.size w w7 := hb6.trans (hb7.mono hs6)
              have hs8 := hb8.size
              have hs7 := hb7.size
              obtain ⟨xo, xc, rfl, _, _, _⟩ := hx.read
              have ho1 := ownsRow_below ho hb7 (Nat.le_refl _)
              clear hcell h h' hFR hF
              go_wp2_with (first | (at_builtin; refine wpList_append2 _ rfl _ _ 26 rfl w.heap.size TS iS _ 1 24 Try.underlying26 hiS hzS0 hzS1 hzS2 rfl (by decide) _ _ _ rfl (World.ownsRow.alloc ho1 _) ⟨w7.heap.size, 0, none⟩ 1 1 (by decide) [.slice xo (applyM a (flip b)[k]).1.length xc] rfl rfl ?c1 ?c2 ?c3 ?c4 ?c5 ?_))
              case c1 => exact at_new _ [Value.slice xo (applyM a (flip b)[k]).1.length xc] _
              case c2 => exact slice_one _ _ _
              case c3 => rw [hlen]; unfold maxLen; omega
              case c4 => rw [hlen]; omega
              case c5 => simp; omega
              intro v' w' hown' hgrow hblk'
              have hM' : OwnM w' w.heap.size v' (((flip b).map fun c => (applyM a c).1).take (k + 1)) := by
                rw [map_take_snoc _ _ _ hk']
                exact OwnM.snoc hs6 ho hrows hdist hb7 hx (by rw [hlen]; exact hown') hgrow
              have hbb : Below w.heap.size w w' := (hb8.alloc hs8 _).grown hgrow (by simp; omega) fun g hg => (World.ownsRow.lt ho1 g hg).1
              have hfr2 := Lib.hid (between_append hfr.out hs0 hb7 hblk.out hgrow)
              have hblk2 := Lib.hid (block_append hs0 hs7 hblk.out hblk')
              have hs9 : w4.heap.size ≤ w'.heap.size := by have := hgrow.size; simp at this; omega
              clear hown' hgrow ho ho1 hrows hdist hblk' hblk hfr
              go_wp2
              go_roundw
              case rel => exact ⟨k + 1, by go_num, by omega, all_step' (f := fun c => (applyM a c).2) hinv.out hd, hM', hblk2.out, hfr2.out, hs9, hbb⟩
              case measure => simp [intOf]; omega
            · have hfin := Lib.hid (mulM_fail hA hB HL.out (all_not hk' hd))
              go_wp2_with fail
              refine (iApplyMatrix _ _ a (flip b)[k] _ _ hza hcl _ (h.below hb6) hR).mono ?_
              rintro e w7 ⟨x, rfl, hx, hb7⟩
              go_wp2
              go_ret2
              exact ⟨.slice none 0 0, by rw [hfin.out]; rfl, by rw [hfin.out]; exact OwnM.nil _ _, by (repeat (first | with_reducible exact Below.refl _ _ | with_reducible assumption | with_reducible refine Below.setCell ?_ (by first | omega | (simp; done) | (simp; omega)) _ | with_reducible refine Below.alloc ?_ (by first | omega | (simp; done) | (simp; omega)) _ | with_reducible refine Below.drew ?_ | with_reducible refine belowDrewN ?_ _ | with_reducible refine Below.trans ?_ (Below.mono (by assumption) (by first | omega | (simp; done) | (simp; omega)))))⟩
          · have hkb : k = b.length := by omega
            subst hkb
            have hfin := Lib.hid (mulM_yes hA hB HL.out (all_of (fun i hi => hinv.out i hi (by omega))))
            have htk : ((flip b).map fun c => (applyM a c).1).take b.length = (flip b).map fun c => (applyM a c).1 := List.take_of_length_le (by rw [List.length_map]; omega)
            rw [htk] at hM
            obtain ⟨ro, rc, rfl, hR, _, _⟩ := hM.read
            have hcl : ((flip b).map fun c => (applyM a c).1).length = b.length := by rw [List.length_map]; exact hfl
            have hrw : ∀ r ∈ (flip b).map (fun c => (applyM a c).1), ((flip b).map fun c => (applyM a c).1).length ≤ r.length ∧ r.length ≤ 2000000 := fun r hr => by
              obtain ⟨c, hc, rfl⟩ := List.mem_map.1 hr
              obtain ⟨i, hi, rfl⟩ := List.getElem_of_mem hc
              have h1 := applyM_length (m := a) (v := (flip b)[i]) (hinv.out i hi (by omega))
              have h2 := HL.out
              omega
            have hm := hfin.out
            clear hfin htk
            generalize (flip b).map (fun c => (applyM a c).1) = cols at *
            have hfin := Lib.hid hm
            have hcl' := Lib.hid hcl
            clear hcl hm
            go_wp2_with fail
            refine (iFlipped _ cols _ (by rw [hcl'.out]; omega) hrw _ hR).mono ?_
            rintro e w7 ⟨x, rfl, hx, hb7⟩
            have hx2 := hx.mono hs6
            rw [show flip cols = (mulM a b).1 by rw [hfin.out]] at hx2
            go_wp2
            go_ret2
            exact ⟨_, by rw [hfin.out]; rfl, hx2, by (repeat (first | with_reducible exact Below.refl _ _ | with_reducible assumption | with_reducible refine Below.setCell ?_ (by first | omega | (simp; done) | (simp; omega)) _ | with_reducible refine Below.alloc ?_ (by first | omega | (simp; done) | (simp; omega)) _ | with_reducible refine Below.drew ?_ | with_reducible refine belowDrewN ?_ _ | with_reducible refine Below.trans ?_ (Below.mono (by assumption) (by first | omega | (simp; done) | (simp; omega)))))⟩
      · have hl' : ((a.length : Int) != (b.length : Int)) = true := by simp; omega
        have hfin := Lib.hid (mulM_no (a := a) (b := b) (by simp [hl]))
        clear hl
        go_enter Try.func32, Try.ntmps32
        go_wp2_with fail
        refine (iIsValidMatrix _ _ _ hza _ h).mono ?_
        rintro e w1 ⟨rfl, hb1⟩
        go_wp2_with fail
        refine (iIsValidMatrix _ _ _ hzb _ (h'.below hb1)).mono ?_
        rintro e w2 ⟨rfl, hb2⟩
        have hs1 := hb1.size
        go_wp2
        go_ret2
        exact ⟨.slice none 0 0, by rw [hfin.out]; rfl, by rw [hfin.out]; exact OwnM.nil _ _, by (repeat (first | with_reducible exact Below.refl _ _ | with_reducible assumption | with_reducible refine Below.setCell ?_ (by first | omega | (simp; done) | (simp; omega)) _ | with_reducible refine Below.alloc ?_ (by first | omega | (simp; done) | (simp; omega)) _ | with_reducible refine Below.drew ?_ | with_reducible refine belowDrewN ?_ _ | with_reducible refine Below.trans ?_ (Below.mono (by assumption) (by first | omega | (simp; done) | (simp; omega)))))⟩
    · have hfin := Lib.hid (mulM_no (a := a) (b := b) (by simp [hB]))
      go_enter Try.func32, Try.ntmps32
      go_wp2_with fail
      refine (iIsValidMatrix _ _ _ hza _ h).mono ?_
      rintro e w1 ⟨rfl, hb1⟩
      go_wp2_with fail
      refine (iIsValidMatrix _ _ _ hzb _ (h'.below hb1)).mono ?_
      rintro e w2 ⟨rfl, hb2⟩
      have hs1 := hb1.size
      go_wp2
      go_ret2
      exact ⟨.slice none 0 0, by rw [hfin.out]; rfl, by rw [hfin.out]; exact OwnM.nil _ _, by (repeat (first | with_reducible exact Below.refl _ _ | with_reducible assumption | with_reducible refine Below.setCell ?_ (by first | omega | (simp; done) | (simp; omega)) _ | with_reducible refine Below.alloc ?_ (by first | omega | (simp; done) | (simp; omega)) _ | with_reducible refine Below.drew ?_ | with_reducible refine belowDrewN ?_ _ | with_reducible refine Below.trans ?_ (Below.mono (by assumption) (by first | omega | (simp; done) | (simp; omega)))))⟩
  · have hfin := Lib.hid (mulM_no (a := a) (b := b) (by simp [hA]))
    go_enter Try.func32, Try.ntmps32
    go_wp2_with fail
    refine (iIsValidMatrix _ _ _ hza _ h).mono ?_
    rintro e w1 ⟨rfl, hb1⟩
    go_wp2
    go_ret2
    exact ⟨.slice none 0 0, by rw [hfin.out]; rfl, by rw [hfin.out]; exact OwnM.nil _ _, by (repeat (first | with_reducible exact Below.refl _ _ | with_reducible assumption | with_reducible refine Below.setCell ?_ (by first | omega | (simp; done) | (simp; omega)) _ | with_reducible refine Below.alloc ?_ (by first | omega | (simp; done) | (simp; omega)) _ | with_reducible refine Below.drew ?_ | with_reducible refine belowDrewN ?_ _ | with_reducible refine Below.trans ?_ (Below.mono (by assumption) (by first | omega | (simp; done) | (simp; omega)))))⟩

end Go.Proofs.Yteckhaafdojoeaa

/-! S10: Basis states. -/
namespace Go.Proofs.Yteckhaafdojoeaa
open Go.RowKit

def basis (n i : Int) : List DO := if inR 1 4 n && inR 0 (2 ^ n.toNat - 1) i then (List.replicate (2 ^ n.toNat) (⟨⟨0, 0, 0, 0⟩, 0⟩ : DO)).set i.toNat ⟨⟨1, 0, 0, 0⟩, 0⟩ else []
theorem basis_no {n i : Int} (h : ¬ inR 1 4 n = true ∨ ¬ inR 0 (2 ^ n.toNat - 1) i = true) : basis n i = [] := by
  rw [basis, if_neg]
  intro e
  rw [Bool.and_eq_true] at e
  rcases h with h | h
  · exact h e.1
  · exact h e.2
theorem basis_yes {n : Int} {j N : Nat} (h1 : inR 1 4 n = true) (h2 : 2 ^ n.toNat = N) (hj : j < N) : basis n j = (List.replicate N (⟨⟨0, 0, 0, 0⟩, 0⟩ : DO)).set j ⟨⟨1, 0, 0, 0⟩, 0⟩ := by
  have h3 : ((2 : Int) ^ n.toNat) = (N : Int) := by rw [← h2]; simp
  rw [basis, if_pos, h2]
  · simp
  · rw [Bool.and_eq_true, h3]
    exact ⟨h1, (inR_iff _ _ _).2 (by omega)⟩

theorem cellsD_zero (N : Nat) : cellsD (List.replicate N (⟨⟨0, 0, 0, 0⟩, 0⟩ : DO)) = List.replicate (N * 5) (.int .i64 0) := by
  rw [List.eq_replicate_iff, cellsD_length, List.length_replicate]
  refine ⟨rfl, fun b hb => ?_⟩
  simp only [cellsD, List.mem_flatMap, List.mem_replicate] at hb
  obtain ⟨x, ⟨_, rfl⟩, hb⟩ := hb
  simp only [dcells, List.mem_cons, List.not_mem_nil, or_false, or_self] at hb
  exact hb
theorem made_zero (N : Nat) : (madeCells (Value.agg #[.int .i64 0, .int .i64 0, .int .i64 0, .int .i64 0, .int .i64 0]).cells (N * 5)).toList = List.replicate (N * 5) (.int .i64 0) := by
  rw [List.eq_replicate_iff]
  refine ⟨by simp [madeCells], fun b hb => ?_⟩
  simp only [madeCells, Array.toList_map, List.mem_map] at hb
  obtain ⟨k, _, rfl⟩ := hb
  have h5 : k % 5 < 5 := Nat.mod_lt _ (by decide)
  generalize hk : k % 5 = r at h5
  show (#[(.int .i64 0 : Value), .int .i64 0, .int .i64 0, .int .i64 0, .int .i64 0])[k % 5]! = _
  rw [hk]
  match r, h5 with
  | 0, _ => rfl
  | 1, _ => rfl
  | 2, _ => rfl
  | 3, _ => rfl
  | 4, _ => rfl
theorem OwnS.made {w : World} {base : Nat} {v : Value} {N : Nat} (h : w.ownsRow base TD 5 v N (madeCells (Value.agg #[.int .i64 0, .int .i64 0, .int .i64 0, .int .i64 0, .int .i64 0]).cells (N * 5)).toList) : OwnS w base v (List.replicate N (⟨⟨0, 0, 0, 0⟩, 0⟩ : DO)) := by
  unfold OwnS
  rw [cellsD_zero, List.length_replicate, ← made_zero]
  exact h
theorem OwnS.cells {w : World} {base g n cap : Nat} {l : List DO} (h : OwnS w base (.slice (some ⟨g, 0, none⟩) n cap) l) {i : Nat} (hi : i < l.length) : DAt w g (i * 5) l[i] := by
  obtain ⟨ao, c, e, hR, _⟩ := h.read
  cases e
  obtain ⟨b, o, e, _, hD⟩ := hR i hi
  cases e
  simpa using hD
theorem OwnS.frozen {w : World} {base g n cap : Nat} {l : List DO} (h : OwnS w base (.slice (some ⟨g, 0, none⟩) n cap) l) (o : Nat) : w.frozen? ⟨g, o, none⟩ = false := by
  rcases h.2 with ⟨e, _⟩ | ⟨g', cap', cur, e, _, hg, _⟩
  · cases e
  · cases e
    simp [World.frozen?, hg]
theorem cellsD_set : ∀ (l : List DO) (i : Nat) (x : DO), i < l.length → (((((cellsD l).set (i * 5) (.int .i64 x.n.a)).set (i * 5 + 1) (.int .i64 x.n.b)).set (i * 5 + 2) (.int .i64 x.n.c)).set (i * 5 + 3) (.int .i64 x.n.d)).set (i * 5 + 4) (.int .i64 x.e) = cellsD (l.set i x)
  | y :: l, 0, x, _ => by simp [cellsD, dcells]
  | y :: l, i + 1, x, h => by
    have := cellsD_set l i x (by simpa using h)
    simp only [cellsD, List.flatMap_cons, List.set_cons_succ] at *
    rw [← this]
    simp [dcells, Nat.add_mul, Nat.add_assoc]
theorem OwnS.set {w : World} {base g n cap : Nat} {l : List DO} (h : OwnS w base (.slice (some ⟨g, 0, none⟩) n cap) l) (i : Nat) (hi : i < l.length) (x : DO) :
    OwnS (((((w.setCell ⟨g, i * 5, none⟩ (.int .i64 x.n.a)).setCell ⟨g, i * 5 + 1, none⟩ (.int .i64 x.n.b)).setCell ⟨g, i * 5 + 2, none⟩ (.int .i64 x.n.c)).setCell ⟨g, i * 5 + 3, none⟩ (.int .i64 x.n.d)).setCell ⟨g, i * 5 + 4, none⟩ (.int .i64 x.e)) base (.slice (some ⟨g, 0, none⟩) n cap) (l.set i x) := by
  have hn : n = l.length := by
    obtain ⟨ao, c, e, _⟩ := h.read
    cases e
    rfl
  subst hn
  unfold OwnS at *
  rw [List.length_set, ← cellsD_set l i x hi]
  have h1 := (World.ownsRow.stored h (i * 5) (.int .i64 x.n.a)).1
  have h2 := (World.ownsRow.stored h1 (i * 5 + 1) (.int .i64 x.n.b)).1
  have h3 := (World.ownsRow.stored h2 (i * 5 + 2) (.int .i64 x.n.c)).1
  have h4 := (World.ownsRow.stored h3 (i * 5 + 3) (.int .i64 x.n.d)).1
  exact (World.ownsRow.stored h4 (i * 5 + 4) (.int .i64 x.e)).1

set_option maxHeartbeats 4000000 in
theorem iBasisState (n i : Int) (w : World) :
    Calls Try.prog 97 #[.int .i64 n, .int .i64 i] w fun e w' => ∃ v, e = .returned v ∧ OwnS w' w.heap.size v (basis n i) ∧ Below w.heap.size w w' := by
  obtain ⟨iD, hiD, hzD0, hzD1, hzD2⟩ := info_parts infoD
  by_cases hn : inR 1 4 n = true
  · have hn' := (inR_iff _ _ _).1 hn
    have hcase : n = 1 ∨ n = 2 ∨ n = 3 ∨ n = 4 := by omega
    rcases hcase with rfl | rfl | rfl | rfl
    · by_cases hi : inR 0 1 i = true
      · have hi' := (inR_iff _ _ _).1 hi
        obtain ⟨j, rfl⟩ := Int.eq_ofNat_of_zero_le hi'.1
        have hj : j < 2 := by omega
        have hfin := Lib.hid (basis_yes (n := 1) (j := j) (N := 2) rfl rfl hj)
        clear hi'
        go_enter Try.func97, Try.ntmps97
        go_wp2_with (first | (go_at_call 116; refine (iIn _ _ _ _).mono ?_; rintro e w1 ⟨rfl, rfl⟩) | (at_make; refine wpList_make_full _ rfl _ _ 56 rfl w.heap.size TD iD _ 5 Try.underlying56 hiD hzD0 hzD1 _ _ _ _ 2 rfl rfl rfl rfl (by omega) (by decide) (Nat.le_refl _) ?_))
        intro w1 hown hgrow
        have hS := OwnS.made (N := 2) hown
        have hb1 : Below w.heap.size w w1 := (Below.refl _ _).grown hgrow (Nat.le_refl _) (fun k hk => by cases hk)
        have hs1 := hb1.size
        clear hown hgrow
        go_wp2_with fail
        refine (iOne _).mono ?_
        rintro e w2 ⟨rfl, hb2⟩
        have hS2 := hS.below hb2 (Nat.le_refl _)
        have hs2 := hb2.size
        have hlt : w.heap.size < w2.heap.size := by
          have := (World.ownsRow.lt hS2 w.heap.size rfl).2
          omega
        obtain ⟨d0, d1, d2, d3, d4⟩ := hS2.cells (i := j) (by simpa using hj)
        have hfz := hS2.frozen
        have hset := hS2.set j (by simpa using hj) ⟨⟨1, 0, 0, 0⟩, 0⟩
        go_wp2
        go_ret
        rw [hfin.out]
        refine ⟨_, rfl, hset, by (repeat (first | with_reducible exact Below.refl _ _ | with_reducible assumption | with_reducible refine Below.setCell ?_ (by first | omega | (simp; done) | (simp; omega)) _ | with_reducible refine Below.alloc ?_ (by first | omega | (simp; done) | (simp; omega)) _ | with_reducible refine Below.drew ?_ | with_reducible refine belowDrewN ?_ _ | with_reducible refine Below.trans ?_ (Below.mono (by assumption) (by first | omega | (simp; done) | (simp; omega)))))⟩
      · have hfin := Lib.hid (basis_no (n := 1) (i := i) (by right; exact hi))
        go_enter Try.func97, Try.ntmps97
        go_wp2_with (go_at_call 116; refine (iIn _ _ _ _).mono ?_; rintro e w1 ⟨rfl, rfl⟩)
        go_ret
        rw [hfin.out]
        exact ⟨_, rfl, OwnS.nil _ _, by (repeat (first | with_reducible exact Below.refl _ _ | with_reducible assumption | with_reducible refine Below.setCell ?_ (by first | omega | (simp; done) | (simp; omega)) _ | with_reducible refine Below.alloc ?_ (by first | omega | (simp; done) | (simp; omega)) _ | with_reducible refine Below.drew ?_ | with_reducible refine belowDrewN ?_ _ | with_reducible refine Below.trans ?_ (Below.mono (by assumption) (by first | omega | (simp; done) | (simp; omega)))))⟩
    · by_cases hi : inR 0 3 i = true
      · have hi' := (inR_iff _ _ _).1 hi
        obtain ⟨j, rfl⟩ := Int.eq_ofNat_of_zero_le hi'.1
        have hj : j < 4 := by omega
        have hfin := Lib.hid (basis_yes (n := 2) (j := j) (N := 4) rfl rfl hj)
        clear hi'
        go_enter Try.func97, Try.ntmps97
        go_wp2_with (first | (go_at_call 116; refine (iIn _ _ _ _).mono ?_; rintro e w1 ⟨rfl, rfl⟩) | (at_make; refine wpList_make_full _ rfl _ _ 56 rfl w.heap.size TD iD _ 5 Try.underlying56 hiD hzD0 hzD1 _ _ _ _ 4 rfl rfl rfl rfl (by omega) (by decide) (Nat.le_refl _) ?_))
        intro w1 hown hgrow
        have hS := OwnS.made (N := 4) hown
        have hb1 : Below w.heap.size w w1 := (Below.refl _ _).grown hgrow (Nat.le_refl _) (fun k hk => by cases hk)
        have hs1 := hb1.size
        clear hown hgrow
        go_wp2_with fail
        refine (iOne _).mono ?_
        rintro e w2 ⟨rfl, hb2⟩
        have hS2 := hS.below hb2 (Nat.le_refl _)
        have hs2 := hb2.size
        have hlt : w.heap.size < w2.heap.size := by
          have := (World.ownsRow.lt hS2 w.heap.size rfl).2
          omega
        obtain ⟨d0, d1, d2, d3, d4⟩ := hS2.cells (i := j) (by simpa using hj)
        have hfz := hS2.frozen
        have hset := hS2.set j (by simpa using hj) ⟨⟨1, 0, 0, 0⟩, 0⟩
        go_wp2
        go_ret
        rw [hfin.out]
        refine ⟨_, rfl, hset, by (repeat (first | with_reducible exact Below.refl _ _ | with_reducible assumption | with_reducible refine Below.setCell ?_ (by first | omega | (simp; done) | (simp; omega)) _ | with_reducible refine Below.alloc ?_ (by first | omega | (simp; done) | (simp; omega)) _ | with_reducible refine Below.drew ?_ | with_reducible refine belowDrewN ?_ _ | with_reducible refine Below.trans ?_ (Below.mono (by assumption) (by first | omega | (simp; done) | (simp; omega)))))⟩
      · have hfin := Lib.hid (basis_no (n := 2) (i := i) (by right; exact hi))
        go_enter Try.func97, Try.ntmps97
        go_wp2_with (go_at_call 116; refine (iIn _ _ _ _).mono ?_; rintro e w1 ⟨rfl, rfl⟩)
        go_ret
        rw [hfin.out]
        exact ⟨_, rfl, OwnS.nil _ _, by (repeat (first | with_reducible exact Below.refl _ _ | with_reducible assumption | with_reducible refine Below.setCell ?_ (by first | omega | (simp; done) | (simp; omega)) _ | with_reducible refine Below.alloc ?_ (by first | omega | (simp; done) | (simp; omega)) _ | with_reducible refine Below.drew ?_ | with_reducible refine belowDrewN ?_ _ | with_reducible refine Below.trans ?_ (Below.mono (by assumption) (by first | omega | (simp; done) | (simp; omega)))))⟩
    · by_cases hi : inR 0 7 i = true
      · have hi' := (inR_iff _ _ _).1 hi
        obtain ⟨j, rfl⟩ := Int.eq_ofNat_of_zero_le hi'.1
        have hj : j < 8 := by omega
        have hfin := Lib.hid (basis_yes (n := 3) (j := j) (N := 8) rfl rfl hj)
        clear hi'
        go_enter Try.func97, Try.ntmps97
        go_wp2_with (first | (go_at_call 116; refine (iIn _ _ _ _).mono ?_; rintro e w1 ⟨rfl, rfl⟩) | (at_make; refine wpList_make_full _ rfl _ _ 56 rfl w.heap.size TD iD _ 5 Try.underlying56 hiD hzD0 hzD1 _ _ _ _ 8 rfl rfl rfl rfl (by omega) (by decide) (Nat.le_refl _) ?_))
        intro w1 hown hgrow
        have hS := OwnS.made (N := 8) hown
        have hb1 : Below w.heap.size w w1 := (Below.refl _ _).grown hgrow (Nat.le_refl _) (fun k hk => by cases hk)
        have hs1 := hb1.size
        clear hown hgrow
        go_wp2_with fail
        refine (iOne _).mono ?_
        rintro e w2 ⟨rfl, hb2⟩
        have hS2 := hS.below hb2 (Nat.le_refl _)
        have hs2 := hb2.size
        have hlt : w.heap.size < w2.heap.size := by
          have := (World.ownsRow.lt hS2 w.heap.size rfl).2
          omega
        obtain ⟨d0, d1, d2, d3, d4⟩ := hS2.cells (i := j) (by simpa using hj)
        have hfz := hS2.frozen
        have hset := hS2.set j (by simpa using hj) ⟨⟨1, 0, 0, 0⟩, 0⟩
        go_wp2
        go_ret
        rw [hfin.out]
        refine ⟨_, rfl, hset, by (repeat (first | with_reducible exact Below.refl _ _ | with_reducible assumption | with_reducible refine Below.setCell ?_ (by first | omega | (simp; done) | (simp; omega)) _ | with_reducible refine Below.alloc ?_ (by first | omega | (simp; done) | (simp; omega)) _ | with_reducible refine Below.drew ?_ | with_reducible refine belowDrewN ?_ _ | with_reducible refine Below.trans ?_ (Below.mono (by assumption) (by first | omega | (simp; done) | (simp; omega)))))⟩
      · have hfin := Lib.hid (basis_no (n := 3) (i := i) (by right; exact hi))
        go_enter Try.func97, Try.ntmps97
        go_wp2_with (go_at_call 116; refine (iIn _ _ _ _).mono ?_; rintro e w1 ⟨rfl, rfl⟩)
        go_ret
        rw [hfin.out]
        exact ⟨_, rfl, OwnS.nil _ _, by (repeat (first | with_reducible exact Below.refl _ _ | with_reducible assumption | with_reducible refine Below.setCell ?_ (by first | omega | (simp; done) | (simp; omega)) _ | with_reducible refine Below.alloc ?_ (by first | omega | (simp; done) | (simp; omega)) _ | with_reducible refine Below.drew ?_ | with_reducible refine belowDrewN ?_ _ | with_reducible refine Below.trans ?_ (Below.mono (by assumption) (by first | omega | (simp; done) | (simp; omega)))))⟩
    · by_cases hi : inR 0 15 i = true
      · have hi' := (inR_iff _ _ _).1 hi
        obtain ⟨j, rfl⟩ := Int.eq_ofNat_of_zero_le hi'.1
        have hj : j < 16 := by omega
        have hfin := Lib.hid (basis_yes (n := 4) (j := j) (N := 16) rfl rfl hj)
        clear hi'
        go_enter Try.func97, Try.ntmps97
        go_wp2_with (first | (go_at_call 116; refine (iIn _ _ _ _).mono ?_; rintro e w1 ⟨rfl, rfl⟩) | (at_make; refine wpList_make_full _ rfl _ _ 56 rfl w.heap.size TD iD _ 5 Try.underlying56 hiD hzD0 hzD1 _ _ _ _ 16 rfl rfl rfl rfl (by omega) (by decide) (Nat.le_refl _) ?_))
        intro w1 hown hgrow
        have hS := OwnS.made (N := 16) hown
        have hb1 : Below w.heap.size w w1 := (Below.refl _ _).grown hgrow (Nat.le_refl _) (fun k hk => by cases hk)
        have hs1 := hb1.size
        clear hown hgrow
        go_wp2_with fail
        refine (iOne _).mono ?_
        rintro e w2 ⟨rfl, hb2⟩
        have hS2 := hS.below hb2 (Nat.le_refl _)
        have hs2 := hb2.size
        have hlt : w.heap.size < w2.heap.size := by
          have := (World.ownsRow.lt hS2 w.heap.size rfl).2
          omega
        obtain ⟨d0, d1, d2, d3, d4⟩ := hS2.cells (i := j) (by simpa using hj)
        have hfz := hS2.frozen
        have hset := hS2.set j (by simpa using hj) ⟨⟨1, 0, 0, 0⟩, 0⟩
        go_wp2
        go_ret
        rw [hfin.out]
        refine ⟨_, rfl, hset, by (repeat (first | with_reducible exact Below.refl _ _ | with_reducible assumption | with_reducible refine Below.setCell ?_ (by first | omega | (simp; done) | (simp; omega)) _ | with_reducible refine Below.alloc ?_ (by first | omega | (simp; done) | (simp; omega)) _ | with_reducible refine Below.drew ?_ | with_reducible refine belowDrewN ?_ _ | with_reducible refine Below.trans ?_ (Below.mono (by assumption) (by first | omega | (simp; done) | (simp; omega)))))⟩
      · have hfin := Lib.hid (basis_no (n := 4) (i := i) (by right; exact hi))
        go_enter Try.func97, Try.ntmps97
        go_wp2_with (go_at_call 116; refine (iIn _ _ _ _).mono ?_; rintro e w1 ⟨rfl, rfl⟩)
        go_ret
        rw [hfin.out]
        exact ⟨_, rfl, OwnS.nil _ _, by (repeat (first | with_reducible exact Below.refl _ _ | with_reducible assumption | with_reducible refine Below.setCell ?_ (by first | omega | (simp; done) | (simp; omega)) _ | with_reducible refine Below.alloc ?_ (by first | omega | (simp; done) | (simp; omega)) _ | with_reducible refine Below.drew ?_ | with_reducible refine belowDrewN ?_ _ | with_reducible refine Below.trans ?_ (Below.mono (by assumption) (by first | omega | (simp; done) | (simp; omega)))))⟩
  · have hfin := Lib.hid (basis_no (n := n) (i := i) (by left; exact hn))
    go_enter Try.func97, Try.ntmps97
    go_wp2_with (go_at_call 116; refine (iIn _ _ _ _).mono ?_; rintro e w1 ⟨rfl, rfl⟩)
    go_ret
    rw [hfin.out]
    exact ⟨_, rfl, OwnS.nil _ _, by (repeat (first | with_reducible exact Below.refl _ _ | with_reducible assumption | with_reducible refine Below.setCell ?_ (by first | omega | (simp; done) | (simp; omega)) _ | with_reducible refine Below.alloc ?_ (by first | omega | (simp; done) | (simp; omega)) _ | with_reducible refine Below.drew ?_ | with_reducible refine belowDrewN ?_ _ | with_reducible refine Below.trans ?_ (Below.mono (by assumption) (by first | omega | (simp; done) | (simp; omega)))))⟩

set_option maxHeartbeats 4000000 in
theorem sBasisState (n i : Int) (w : World) :
    Calls Try.prog 74 #[.int .i64 n, .int .i64 i] w fun e w' => ∃ v, e = .returned v ∧ OwnS w' w.heap.size v (basis n i) ∧ Below w.heap.size w w' := by
  obtain ⟨iD, hiD, hzD0, hzD1, hzD2⟩ := info_parts infoD
  by_cases hn : inR 1 4 n = true
  · have hn' := (inR_iff _ _ _).1 hn
    have hcase : n = 1 ∨ n = 2 ∨ n = 3 ∨ n = 4 := by omega
    rcases hcase with rfl | rfl | rfl | rfl
    · by_cases hi : inR 0 1 i = true
      · have hi' := (inR_iff _ _ _).1 hi
        obtain ⟨j, rfl⟩ := Int.eq_ofNat_of_zero_le hi'.1
        have hj : j < 2 := by omega
        have hfin := Lib.hid (basis_yes (n := 1) (j := j) (N := 2) rfl rfl hj)
        clear hi'
        go_enter Try.func74, Try.ntmps74
        go_wp2_with (first | (go_at_call 102; refine (sIn _ _ _ _).mono ?_; rintro e w1 ⟨rfl, rfl⟩) | (at_make; refine wpList_make_full _ rfl _ _ 56 rfl w.heap.size TD iD _ 5 Try.underlying56 hiD hzD0 hzD1 _ _ _ _ 2 rfl rfl rfl rfl (by omega) (by decide) (Nat.le_refl _) ?_))
        intro w1 hown hgrow
        have hS := OwnS.made (N := 2) hown
        have hb1 : Below w.heap.size w w1 := (Below.refl _ _).grown hgrow (Nat.le_refl _) (fun k hk => by cases hk)
        have hs1 := hb1.size
        clear hown hgrow
        go_wp2_with fail
        refine (sOne _).mono ?_
        rintro e w2 ⟨rfl, hb2⟩
        have hS2 := hS.below hb2 (Nat.le_refl _)
        have hs2 := hb2.size
        have hlt : w.heap.size < w2.heap.size := by
          have := (World.ownsRow.lt hS2 w.heap.size rfl).2
          omega
        obtain ⟨d0, d1, d2, d3, d4⟩ := hS2.cells (i := j) (by simpa using hj)
        have hfz := hS2.frozen
        have hset := hS2.set j (by simpa using hj) ⟨⟨1, 0, 0, 0⟩, 0⟩
        go_wp2
        go_ret
        rw [hfin.out]
        refine ⟨_, rfl, hset, by (repeat (first | with_reducible exact Below.refl _ _ | with_reducible assumption | with_reducible refine Below.setCell ?_ (by first | omega | (simp; done) | (simp; omega)) _ | with_reducible refine Below.alloc ?_ (by first | omega | (simp; done) | (simp; omega)) _ | with_reducible refine Below.drew ?_ | with_reducible refine belowDrewN ?_ _ | with_reducible refine Below.trans ?_ (Below.mono (by assumption) (by first | omega | (simp; done) | (simp; omega)))))⟩
      · have hfin := Lib.hid (basis_no (n := 1) (i := i) (by right; exact hi))
        go_enter Try.func74, Try.ntmps74
        go_wp2_with (go_at_call 102; refine (sIn _ _ _ _).mono ?_; rintro e w1 ⟨rfl, rfl⟩)
        go_ret
        rw [hfin.out]
        exact ⟨_, rfl, OwnS.empty (Nat.le_refl _), by (repeat (first | with_reducible exact Below.refl _ _ | with_reducible assumption | with_reducible refine Below.setCell ?_ (by first | omega | (simp; done) | (simp; omega)) _ | with_reducible refine Below.alloc ?_ (by first | omega | (simp; done) | (simp; omega)) _ | with_reducible refine Below.drew ?_ | with_reducible refine belowDrewN ?_ _ | with_reducible refine Below.trans ?_ (Below.mono (by assumption) (by first | omega | (simp; done) | (simp; omega)))))⟩
    · by_cases hi : inR 0 3 i = true
      · have hi' := (inR_iff _ _ _).1 hi
        obtain ⟨j, rfl⟩ := Int.eq_ofNat_of_zero_le hi'.1
        have hj : j < 4 := by omega
        have hfin := Lib.hid (basis_yes (n := 2) (j := j) (N := 4) rfl rfl hj)
        clear hi'
        go_enter Try.func74, Try.ntmps74
        go_wp2_with (first | (go_at_call 102; refine (sIn _ _ _ _).mono ?_; rintro e w1 ⟨rfl, rfl⟩) | (at_make; refine wpList_make_full _ rfl _ _ 56 rfl w.heap.size TD iD _ 5 Try.underlying56 hiD hzD0 hzD1 _ _ _ _ 4 rfl rfl rfl rfl (by omega) (by decide) (Nat.le_refl _) ?_))
        intro w1 hown hgrow
        have hS := OwnS.made (N := 4) hown
        have hb1 : Below w.heap.size w w1 := (Below.refl _ _).grown hgrow (Nat.le_refl _) (fun k hk => by cases hk)
        have hs1 := hb1.size
        clear hown hgrow
        go_wp2_with fail
        refine (sOne _).mono ?_
        rintro e w2 ⟨rfl, hb2⟩
        have hS2 := hS.below hb2 (Nat.le_refl _)
        have hs2 := hb2.size
        have hlt : w.heap.size < w2.heap.size := by
          have := (World.ownsRow.lt hS2 w.heap.size rfl).2
          omega
        obtain ⟨d0, d1, d2, d3, d4⟩ := hS2.cells (i := j) (by simpa using hj)
        have hfz := hS2.frozen
        have hset := hS2.set j (by simpa using hj) ⟨⟨1, 0, 0, 0⟩, 0⟩
        go_wp2
        go_ret
        rw [hfin.out]
        refine ⟨_, rfl, hset, by (repeat (first | with_reducible exact Below.refl _ _ | with_reducible assumption | with_reducible refine Below.setCell ?_ (by first | omega | (simp; done) | (simp; omega)) _ | with_reducible refine Below.alloc ?_ (by first | omega | (simp; done) | (simp; omega)) _ | with_reducible refine Below.drew ?_ | with_reducible refine belowDrewN ?_ _ | with_reducible refine Below.trans ?_ (Below.mono (by assumption) (by first | omega | (simp; done) | (simp; omega)))))⟩
      · have hfin := Lib.hid (basis_no (n := 2) (i := i) (by right; exact hi))
        go_enter Try.func74, Try.ntmps74
        go_wp2_with (go_at_call 102; refine (sIn _ _ _ _).mono ?_; rintro e w1 ⟨rfl, rfl⟩)
        go_ret
        rw [hfin.out]
        exact ⟨_, rfl, OwnS.empty (Nat.le_refl _), by (repeat (first | with_reducible exact Below.refl _ _ | with_reducible assumption | with_reducible refine Below.setCell ?_ (by first | omega | (simp; done) | (simp; omega)) _ | with_reducible refine Below.alloc ?_ (by first | omega | (simp; done) | (simp; omega)) _ | with_reducible refine Below.drew ?_ | with_reducible refine belowDrewN ?_ _ | with_reducible refine Below.trans ?_ (Below.mono (by assumption) (by first | omega | (simp; done) | (simp; omega)))))⟩
    · by_cases hi : inR 0 7 i = true
      · have hi' := (inR_iff _ _ _).1 hi
        obtain ⟨j, rfl⟩ := Int.eq_ofNat_of_zero_le hi'.1
        have hj : j < 8 := by omega
        have hfin := Lib.hid (basis_yes (n := 3) (j := j) (N := 8) rfl rfl hj)
        clear hi'
        go_enter Try.func74, Try.ntmps74
        go_wp2_with (first | (go_at_call 102; refine (sIn _ _ _ _).mono ?_; rintro e w1 ⟨rfl, rfl⟩) | (at_make; refine wpList_make_full _ rfl _ _ 56 rfl w.heap.size TD iD _ 5 Try.underlying56 hiD hzD0 hzD1 _ _ _ _ 8 rfl rfl rfl rfl (by omega) (by decide) (Nat.le_refl _) ?_))
        intro w1 hown hgrow
        have hS := OwnS.made (N := 8) hown
        have hb1 : Below w.heap.size w w1 := (Below.refl _ _).grown hgrow (Nat.le_refl _) (fun k hk => by cases hk)
        have hs1 := hb1.size
        clear hown hgrow
        go_wp2_with fail
        refine (sOne _).mono ?_
        rintro e w2 ⟨rfl, hb2⟩
        have hS2 := hS.below hb2 (Nat.le_refl _)
        have hs2 := hb2.size
        have hlt : w.heap.size < w2.heap.size := by
          have := (World.ownsRow.lt hS2 w.heap.size rfl).2
          omega
        obtain ⟨d0, d1, d2, d3, d4⟩ := hS2.cells (i := j) (by simpa using hj)
        have hfz := hS2.frozen
        have hset := hS2.set j (by simpa using hj) ⟨⟨1, 0, 0, 0⟩, 0⟩
        go_wp2
        go_ret
        rw [hfin.out]
        refine ⟨_, rfl, hset, by (repeat (first | with_reducible exact Below.refl _ _ | with_reducible assumption | with_reducible refine Below.setCell ?_ (by first | omega | (simp; done) | (simp; omega)) _ | with_reducible refine Below.alloc ?_ (by first | omega | (simp; done) | (simp; omega)) _ | with_reducible refine Below.drew ?_ | with_reducible refine belowDrewN ?_ _ | with_reducible refine Below.trans ?_ (Below.mono (by assumption) (by first | omega | (simp; done) | (simp; omega)))))⟩
      · have hfin := Lib.hid (basis_no (n := 3) (i := i) (by right; exact hi))
        go_enter Try.func74, Try.ntmps74
        go_wp2_with (go_at_call 102; refine (sIn _ _ _ _).mono ?_; rintro e w1 ⟨rfl, rfl⟩)
        go_ret
        rw [hfin.out]
        exact ⟨_, rfl, OwnS.empty (Nat.le_refl _), by (repeat (first | with_reducible exact Below.refl _ _ | with_reducible assumption | with_reducible refine Below.setCell ?_ (by first | omega | (simp; done) | (simp; omega)) _ | with_reducible refine Below.alloc ?_ (by first | omega | (simp; done) | (simp; omega)) _ | with_reducible refine Below.drew ?_ | with_reducible refine belowDrewN ?_ _ | with_reducible refine Below.trans ?_ (Below.mono (by assumption) (by first | omega | (simp; done) | (simp; omega)))))⟩
    · by_cases hi : inR 0 15 i = true
      · have hi' := (inR_iff _ _ _).1 hi
        obtain ⟨j, rfl⟩ := Int.eq_ofNat_of_zero_le hi'.1
        have hj : j < 16 := by omega
        have hfin := Lib.hid (basis_yes (n := 4) (j := j) (N := 16) rfl rfl hj)
        clear hi'
        go_enter Try.func74, Try.ntmps74
        go_wp2_with (first | (go_at_call 102; refine (sIn _ _ _ _).mono ?_; rintro e w1 ⟨rfl, rfl⟩) | (at_make; refine wpList_make_full _ rfl _ _ 56 rfl w.heap.size TD iD _ 5 Try.underlying56 hiD hzD0 hzD1 _ _ _ _ 16 rfl rfl rfl rfl (by omega) (by decide) (Nat.le_refl _) ?_))
        intro w1 hown hgrow
        have hS := OwnS.made (N := 16) hown
        have hb1 : Below w.heap.size w w1 := (Below.refl _ _).grown hgrow (Nat.le_refl _) (fun k hk => by cases hk)
        have hs1 := hb1.size
        clear hown hgrow
        go_wp2_with fail
        refine (sOne _).mono ?_
        rintro e w2 ⟨rfl, hb2⟩
        have hS2 := hS.below hb2 (Nat.le_refl _)
        have hs2 := hb2.size
        have hlt : w.heap.size < w2.heap.size := by
          have := (World.ownsRow.lt hS2 w.heap.size rfl).2
          omega
        obtain ⟨d0, d1, d2, d3, d4⟩ := hS2.cells (i := j) (by simpa using hj)
        have hfz := hS2.frozen
        have hset := hS2.set j (by simpa using hj) ⟨⟨1, 0, 0, 0⟩, 0⟩
        go_wp2
        go_ret
        rw [hfin.out]
        refine ⟨_, rfl, hset, by (repeat (first | with_reducible exact Below.refl _ _ | with_reducible assumption | with_reducible refine Below.setCell ?_ (by first | omega | (simp; done) | (simp; omega)) _ | with_reducible refine Below.alloc ?_ (by first | omega | (simp; done) | (simp; omega)) _ | with_reducible refine Below.drew ?_ | with_reducible refine belowDrewN ?_ _ | with_reducible refine Below.trans ?_ (Below.mono (by assumption) (by first | omega | (simp; done) | (simp; omega)))))⟩
      · have hfin := Lib.hid (basis_no (n := 4) (i := i) (by right; exact hi))
        go_enter Try.func74, Try.ntmps74
        go_wp2_with (go_at_call 102; refine (sIn _ _ _ _).mono ?_; rintro e w1 ⟨rfl, rfl⟩)
        go_ret
        rw [hfin.out]
        exact ⟨_, rfl, OwnS.empty (Nat.le_refl _), by (repeat (first | with_reducible exact Below.refl _ _ | with_reducible assumption | with_reducible refine Below.setCell ?_ (by first | omega | (simp; done) | (simp; omega)) _ | with_reducible refine Below.alloc ?_ (by first | omega | (simp; done) | (simp; omega)) _ | with_reducible refine Below.drew ?_ | with_reducible refine belowDrewN ?_ _ | with_reducible refine Below.trans ?_ (Below.mono (by assumption) (by first | omega | (simp; done) | (simp; omega)))))⟩
  · have hfin := Lib.hid (basis_no (n := n) (i := i) (by left; exact hn))
    go_enter Try.func74, Try.ntmps74
    go_wp2_with (go_at_call 102; refine (sIn _ _ _ _).mono ?_; rintro e w1 ⟨rfl, rfl⟩)
    go_ret
    rw [hfin.out]
    exact ⟨_, rfl, OwnS.empty (Nat.le_refl _), by (repeat (first | with_reducible exact Below.refl _ _ | with_reducible assumption | with_reducible refine Below.setCell ?_ (by first | omega | (simp; done) | (simp; omega)) _ | with_reducible refine Below.alloc ?_ (by first | omega | (simp; done) | (simp; omega)) _ | with_reducible refine Below.drew ?_ | with_reducible refine belowDrewN ?_ _ | with_reducible refine Below.trans ?_ (Below.mono (by assumption) (by first | omega | (simp; done) | (simp; omega)))))⟩

end Go.Proofs.Yteckhaafdojoeaa

/-! S11: A number of a matrix of our own is written; the adjoint matrix (impl). -/
namespace Go.Proofs.Yteckhaafdojoeaa
open Go.RowKit

/-- A number at place i of the block g. -/
def setD (w : World) (g i : Nat) (x : DO) : World :=
  ((((w.setCell ⟨g, i * 5, none⟩ (.int .i64 x.n.a)).setCell ⟨g, i * 5 + 1, none⟩ (.int .i64 x.n.b)).setCell ⟨g, i * 5 + 2, none⟩ (.int .i64 x.n.c)).setCell ⟨g, i * 5 + 3, none⟩ (.int .i64 x.n.d)).setCell ⟨g, i * 5 + 4, none⟩ (.int .i64 x.e)
theorem setD_block (w : World) (g i : Nat) (x : DO) (k : Nat) (h : k ≠ g) : (setD w g i x).heap[k]? = w.heap[k]? := by
  unfold setD
  rw [Below.heap_setCell _ _ _ _ h, Below.heap_setCell _ _ _ _ h, Below.heap_setCell _ _ _ _ h, Below.heap_setCell _ _ _ _ h, Below.heap_setCell _ _ _ _ h]
theorem setD_below {B : Nat} {w0 w : World} {g i : Nat} {x : DO} (h : Below B w0 w) (hg : B ≤ g) : Below B w0 (setD w g i x) :=
  ((((h.setCell hg _).setCell hg _).setCell hg _).setCell hg _).setCell hg _

theorem OwnM.at {w : World} {base : Nat} {v : Value} {m : List (List DO)} (h : OwnM w base v m) {k j : Nat} (hk : k < m.length) (hj : j < m[k].length) :
    ∃ ob oc g c, v = .slice (some ⟨ob, 0, none⟩) m.length oc ∧ base ≤ g ∧ g < w.heap.size ∧ ob < w.heap.size ∧ ob ≠ g ∧ w.cell? ⟨ob, k, none⟩ = some (.slice (some ⟨g, 0, none⟩) m[k].length c) ∧ DAt w g (j * 5) m[k][j] ∧
      (∀ o, w.frozen? ⟨g, o, none⟩ = false) ∧ ∀ w2 x, Below w.heap.size w w2 → OwnM (setD w2 g j x) base v (m.set k (m[k].set j x)) := by
  have h0 := h
  obtain ⟨vs, ho, hr, hd⟩ := h
  obtain ⟨x, hx, hS⟩ := hr k hk
  have hvl : vs.length = m.length := by have := ho.1; omega
  rcases ho.2 with ⟨_, h0'⟩ | ⟨ob, oc, ocur, hv, hob, hog, hon, hoc, hos, hot⟩
  · omega
  · subst hv
    have hS0 := hS
    rcases hS.2 with ⟨_, h0'⟩ | ⟨g, c, cur, hxv, hg, hgg, hgn, hgc, hgs, hgt⟩
    · omega
    · subst hxv
      have hne : ob ≠ g := fun e => by
        have := OwnS.apart hS0 ho
        simp [Value.ownBlock] at this
        exact this e.symm
      refine ⟨ob, oc, g, c, rfl, hg, (Array.getElem?_eq_some_iff.1 hgg).1, (Array.getElem?_eq_some_iff.1 hog).1, hne, ?_, hS0.cells hj, hS0.frozen, fun w2 y hb => ?_⟩
      · rw [World.ownsRow.cellAt ho k (by omega), hx]
      · have ho2 := ownsRow_below ho hb (Nat.le_refl _)
        have hS2 := hS0.below hb (Nat.le_refl _)
        refine ⟨vs, ?_, fun i hi => ?_, hd⟩
        · rw [List.length_set]
          refine ⟨ho2.1, ?_⟩
          rcases ho2.2 with h1 | ⟨g', cap', cur', hv', hb', hg', r'⟩
          · exact .inl h1
          · refine .inr ⟨g', cap', cur', hv', hb', ?_, r'⟩
            cases hv'
            rw [setD_block _ _ _ _ _ hne, hg']
        · have hi' : i < m.length := by simpa using hi
          by_cases hik : i = k
          · subst hik
            refine ⟨_, hx, ?_⟩
            rw [List.getElem_set_self]
            exact hS2.set j hj y
          · obtain ⟨z, hz, hSz⟩ := hr i hi'
            refine ⟨z, hz, ?_⟩
            rw [List.getElem_set_ne (fun e => hik e.symm)]
            have hSz2 := hSz.below hb (Nat.le_refl _)
            refine ⟨hSz2.1, ?_⟩
            rcases hSz2.2 with h1 | ⟨g', cap', cur', hv', hb', hg', r'⟩
            · exact .inl h1
            · refine .inr ⟨g', cap', cur', hv', hb', ?_, r'⟩
              subst hv'
              have : g' ≠ g := fun e => by
                subst e
                rcases Nat.lt_or_gt_of_ne hik with hlt | hgt
                · exact hd i k _ _ hlt hz hx g' rfl rfl
                · exact hd k i _ _ hgt hx hz g' rfl rfl
              rw [setD_block _ _ _ _ _ this, hg']

def adjM (m : List (List DO)) : List (List DO) := if okM m then (flip m).map (fun r => r.map conjD) else []
/-- Rows before k conjugated, of row k the numbers before j. -/
def adjP (m : List (List DO)) (k j : Nat) : List (List DO) := m.mapIdx fun i r => if i < k then r.map conjD else if i = k then r.mapIdx (fun q x => if q < j then conjD x else x) else r
theorem adjP_length (m : List (List DO)) (k j : Nat) : (adjP m k j).length = m.length := by simp [adjP]
theorem adjP_zero (m : List (List DO)) : adjP m 0 0 = m := by
  apply List.ext_getElem (by simp [adjP])
  intro i h1 h2
  simp only [adjP, List.getElem_mapIdx]
  by_cases hi : i = 0
  · subst hi
    simp
    apply List.ext_getElem (by simp)
    intro q h3 h4
    simp
  · simp [hi]
theorem adjP_next {m : List (List DO)} {k n : Nat} (hr : ∀ r ∈ m, r.length = n) : adjP m k n = adjP m (k + 1) 0 := by
  apply List.ext_getElem (by simp [adjP])
  intro i h1 h2
  simp only [adjP, List.getElem_mapIdx]
  have hi : i < m.length := by simpa [adjP] using h1
  have hl := hr m[i] (List.getElem_mem _)
  rcases Nat.lt_trichotomy i k with h | h | h
  · rw [if_pos h, if_pos (by omega)]
  · subst h
    rw [if_neg (Nat.lt_irrefl _), if_pos rfl, if_pos (by omega)]
    apply List.ext_getElem (by simp)
    intro q h3 h4
    have : q < n := by simpa [hl] using h3
    simp [this]
  · rw [if_neg (by omega), if_neg (by omega), if_neg (by omega)]
    by_cases hk : i = k + 1
    · rw [if_pos hk]
      apply List.ext_getElem (by simp)
      intro q h3 h4
      simp
    · rw [if_neg hk]
theorem adjP_row {m : List (List DO)} {k j : Nat} (hk : k < m.length) : (adjP m k j)[k]'(by rw [adjP_length]; exact hk) = m[k].mapIdx (fun q x => if q < j then conjD x else x) := by
  simp [adjP]
theorem adjP_step {m : List (List DO)} {k j : Nat} (hk : k < m.length) (hj : j < m[k].length) :
    (adjP m k j).set k (((adjP m k j)[k]'(by rw [adjP_length]; exact hk)).set j (conjD m[k][j])) = adjP m k (j + 1) := by
  apply List.ext_getElem (by simp [adjP])
  intro i h1 h2
  by_cases hi : i = k
  · subst hi
    rw [List.getElem_set_self, adjP_row hk, adjP_row hk]
    apply List.ext_getElem (by simp)
    intro q h3 h4
    simp only [List.getElem_set, List.getElem_mapIdx]
    by_cases hq : j = q
    · subst hq; simp
    · rw [if_neg hq]
      by_cases hqj : q < j
      · rw [if_pos hqj, if_pos (by omega)]
      · rw [if_neg hqj, if_neg (by omega)]
  · rw [List.getElem_set_ne (fun e => hi e.symm)]
    simp [adjP, hi]
theorem adjP_end {m : List (List DO)} {k : Nat} (hk : m.length ≤ k) : adjP m k 0 = m.map fun r => r.map conjD := by
  apply List.ext_getElem (by simp [adjP])
  intro i h1 h2
  have hi : i < m.length := by simpa [adjP] using h1
  simp only [adjP, List.getElem_mapIdx, List.getElem_map]
  rw [if_pos (by omega)]

end Go.Proofs.Yteckhaafdojoeaa

/-! S12: The walk of impl.AdjointMatrix. -/
namespace Go.Proofs.Yteckhaafdojoeaa
open Go.RowKit

theorem adjM_no {m : List (List DO)} (h : ¬ okM m = true) : adjM m = [] := by rw [adjM, if_neg h]
theorem adjM_yes {m : List (List DO)} (h : okM m = true) : adjM m = (flip m).map (fun r => r.map conjD) := by rw [adjM, if_pos h]
theorem adjP_rowlen {m : List (List DO)} {k j i n : Nat} (hr : ∀ r ∈ m, r.length = n) (hi : i < (adjP m k j).length) : ((adjP m k j)[i]).length = n := by
  have hi' : i < m.length := by simpa [adjP] using hi
  have := hr m[i] (List.getElem_mem _)
  simp only [adjP, List.getElem_mapIdx]
  repeat' split
  all_goals simp [this]
/-- The same, with the value's shape known. -/
theorem OwnM.at' {w : World} {base n oc : Nat} {ob : Nat} {m : List (List DO)} (h : OwnM w base (.slice (some ⟨ob, 0, none⟩) n oc) m) {k j : Nat} (hk : k < m.length) (hj : j < m[k].length) :
    ∃ g c, base ≤ g ∧ g < w.heap.size ∧ ob < w.heap.size ∧ ob ≠ g ∧ w.cell? ⟨ob, k, none⟩ = some (.slice (some ⟨g, 0, none⟩) m[k].length c) ∧ DAt w g (j * 5) m[k][j] ∧
      (∀ o, w.frozen? ⟨g, o, none⟩ = false) ∧ ∀ w2 x, Below w.heap.size w w2 → OwnM (setD w2 g j x) base (.slice (some ⟨ob, 0, none⟩) n oc) (m.set k (m[k].set j x)) := by
  obtain ⟨ob', oc', g, c, hv, h1, h2, h3, h4, h5, h6, h7, h8⟩ := h.at hk hj
  cases hv
  exact ⟨g, c, h1, h2, h3, h4, h5, h6, h7, h8⟩

theorem adjP_elem {m : List (List DO)} {k j : Nat} (hk : k < m.length) (hj : j < m[k].length) (h1 : k < (adjP m k j).length) (h2 : j < ((adjP m k j)[k]).length) : ((adjP m k j)[k])[j] = m[k][j] := by
  simp [adjP]

set_option maxHeartbeats 8000000 in
theorem iAdjointMatrix (ao : Option Addr) (m : List (List DO)) (cap : Nat) (hz : SzM m) (w : World) (h : MtR w ao m) :
    Calls Try.prog 26 #[.slice ao m.length cap] w fun e w' => ∃ v, e = .returned v ∧ OwnM w' w.heap.size v (adjM m) ∧ Below w.heap.size w w' := by
  by_cases hm : okM m = true
  · have hml := okM_len hm
    have hm0 := okM_pos hm
    have hfin := Lib.hid (adjM_yes hm)
    have hrl : ∀ r ∈ flip m, r.length = m.length := fun r hr => mem_flip_length hr
    have hFl := flip_length m
    go_enter Try.func26, Try.ntmps26
    go_wp2_with fail
    refine (iIsValidMatrix _ _ _ hz _ h).mono ?_
    rintro e w1 ⟨rfl, hb1⟩
    have hs1 := hb1.size
    go_wp2_with fail
    refine (iFlipped _ m _ (by omega) (fun r hr => by have := (okM_rows hm hr).1; omega) _ (h.below hb1)).mono ?_
    rintro e w2 ⟨fv, rfl, hF, hb2⟩
    have hb3 : Below w.heap.size w w2 := hb1.trans (hb2.mono hs1)
    have hF2 := hF.mono hs1
    generalize hFF : flip m = F at *
    have hF00 : 0 < F.length := by omega
    obtain ⟨ob, oc, _, _, rfl, -⟩ := hF2.at hF00 (show 0 < F[0].length by rw [hrl _ (List.getElem_mem _)]; exact hm0)
    rw [hFl] at hF2 ⊢
    generalize hN : m.length = n at *
    have HL := Lib.hid hFl
    have HR := Lib.hid hrl
    have HF := Lib.hid hFF
    clear hFl hrl hFF hF hb1 hb2 hF00 h hN
    go_wp2
    go_loopw [13] (fun x wr => ∃ k : Nat, x = .int .i64 k ∧ k ≤ n ∧ OwnM wr w.heap.size (.slice (some ⟨ob, 0, none⟩) n oc) (adjP F k 0) ∧ Below w.heap.size w wr) (fun x _ => n - (intOf x).toNat)
    case atStart => exact ⟨0, rfl, Nat.zero_le _, by rw [adjP_zero]; exact hF2, hb3⟩
    case round =>
      obtain ⟨k, rfl, h0, hM, hb0⟩ := hrel
      have hs0 := hb0.size
      by_cases hk : k < n
      · have hkF : k < F.length := by rw [HL.out]; exact hk
        have hkA : ∀ j, k < (adjP F k j).length := fun j => by rw [adjP_length]; exact hkF
        have hrow : ∀ j, ((adjP F k j)[k]'(hkA j)).length = n := fun j => adjP_rowlen HR.out (hkA j)
        obtain ⟨g0, c0, hg1, hg2, hg3, hg4, hg5, -⟩ := hM.at' (hkA 0) (show 0 < _ by rw [hrow]; exact hm0)
        rw [hrow] at hg5
        obtain ⟨wo, rfl⟩ : ∃ wo : World, wo = wr := ⟨_, rfl⟩
        have hrow' := Lib.hid hrow
        clear hrow
        go_wp2
        go_loopw [21] (fun x wi => ∃ j : Nat, x = .int .i64 j ∧ j ≤ n ∧ OwnM wi w.heap.size (.slice (some ⟨ob, 0, none⟩) n oc) (adjP F k j) ∧ Below w.heap.size w wi) (fun x _ => n - (intOf x).toNat)
        case atStart => exact ⟨0, rfl, Nat.zero_le _, hM, hb0⟩
        case round =>
          obtain ⟨j, rfl, j0, hM2, hb4⟩ := hrel
          have hs4 := hb4.size
          by_cases hj : j < n
          · obtain ⟨g, c, q1, q2, q3, q4, q5, hD, q7, q8⟩ := hM2.at' (hkA j) (show j < _ by rw [hrow'.out]; exact hj)
            rw [hrow'.out] at q5
            have hjF : j < F[k].length := by rw [HR.out F[k] (List.getElem_mem _)]; exact hj
            have hstep := adjP_step hkF hjF
            have hx := adjP_elem (j := j) hkF hjF (hkA j) (by rw [hrow'.out]; exact hj)
            obtain ⟨x, hxe⟩ : ∃ x, x = F[k][j] := ⟨_, rfl⟩
            rw [← hxe] at hstep hx
            have q9 := fun w2 hb => q8 w2 (conjD x) hb
            rw [hstep] at q9
            rw [hx] at hD
            have q8' := Lib.hid q9
            obtain ⟨d0, d1, d2, d3, d4⟩ := hD
            clear q8 q9 hM2 hM hx hstep hxe hg5
            go_wp2
            go_region_with (first | (go_at_call 107; refine (iConjD' x _).mono ?_; rintro e wa ⟨rfl, hb⟩; obtain ⟨hc, hf, hz⟩ := bcell hb; (try simp only [World.size_drew, World.cell?_drew, World.frozen?_drew] at hc hf hz); (try simp at hz); (try have kk := fun o => hc (ob) o (by first | omega | (simp; done) | (simp; omega))); (try have kf := fun o => hf (ob) o (by first | omega | (simp; done) | (simp; omega))); (try have zz : ob < wa.heap.size := by omega); (try have kk := fun o => hc (g) o (by first | omega | (simp; done) | (simp; omega))); (try have kf := fun o => hf (g) o (by first | omega | (simp; done) | (simp; omega))); (try have zz : g < wa.heap.size := by omega)))
            all_goals go_wp2
            all_goals go_roundw
            all_goals first
              | exact ⟨j + 1, by go_num, by omega, q8'.out _ (by (repeat (first | with_reducible exact Below.refl _ _ | with_reducible assumption | with_reducible refine Below.setCell ?_ (by first | omega | (simp; done) | (simp; omega)) _ | with_reducible refine Below.alloc ?_ (by first | omega | (simp; done) | (simp; omega)) _ | with_reducible refine Below.drew ?_ | with_reducible refine belowDrewN ?_ _ | with_reducible refine Below.trans ?_ (Below.mono (by assumption) (by first | omega | (simp; done) | (simp; omega)))))), by (repeat (first | with_reducible exact Below.refl _ _ | with_reducible assumption | with_reducible refine Below.setCell ?_ (by first | omega | (simp; done) | (simp; omega)) _ | with_reducible refine Below.alloc ?_ (by first | omega | (simp; done) | (simp; omega)) _ | with_reducible refine Below.drew ?_ | with_reducible refine belowDrewN ?_ _ | with_reducible refine Below.trans ?_ (Below.mono (by assumption) (by first | omega | (simp; done) | (simp; omega)))))⟩
              | (simp [intOf]; omega)
          · have hjn : j = n := by omega
            subst hjn
            rw [adjP_next HR.out] at hM2
            go_wp2
            go_roundw
            case rel => exact ⟨k + 1, by go_num, by omega, hM2, hb4⟩
            case measure => simp [intOf]; omega
      · rw [adjP_end (by rw [HL.out]; omega)] at hM
        rw [← hfin.out] at hM
        go_wp2
        go_ret
        exact ⟨_, rfl, hM, hb0⟩
  · have hfin := Lib.hid (adjM_no hm)
    go_enter Try.func26, Try.ntmps26
    go_wp2_with fail
    refine (iIsValidMatrix _ _ _ hz _ h).mono ?_
    rintro e w1 ⟨rfl, hb1⟩
    go_wp2
    go_ret
    exact ⟨.slice none 0 0, rfl, by rw [hfin.out]; exact OwnM.nil _ _, by (repeat (first | with_reducible exact Below.refl _ _ | with_reducible assumption | with_reducible refine Below.setCell ?_ (by first | omega | (simp; done) | (simp; omega)) _ | with_reducible refine Below.alloc ?_ (by first | omega | (simp; done) | (simp; omega)) _ | with_reducible refine Below.drew ?_ | with_reducible refine belowDrewN ?_ _ | with_reducible refine Below.trans ?_ (Below.mono (by assumption) (by first | omega | (simp; done) | (simp; omega)))))⟩

end Go.Proofs.Yteckhaafdojoeaa

/-! S13: The identity matrix; whether a matrix is unitary (impl). -/
namespace Go.Proofs.Yteckhaafdojoeaa
open Go.RowKit

def identM (n : Int) : List (List DO) := if inR 1 4 n then (List.range (2 ^ n.toNat)).map (fun i : Nat => basis n i) else []
theorem identM_no {n : Int} (h : ¬ inR 1 4 n = true) : identM n = [] := by rw [identM, if_neg h]
theorem identM_take {n : Int} {N : Nat} (h1 : inR 1 4 n = true) (h2 : 2 ^ n.toNat = N) : ∀ j : Nat, j < N → (identM n).take (j + 1) = (identM n).take j ++ [basis n j] := fun j hj => by
  rw [identM, if_pos h1, h2, map_take_snoc _ _ _ (by simpa using hj)]
  simp
def unitary (m : List (List DO)) : Bool := (mulM (adjM m) m).2 && decide ((mulM (adjM m) m).1 = identM (qc (m.headD []).length))
theorem unitary_no {m : List (List DO)} (h : ¬ (mulM (adjM m) m).2 = true) : unitary m = false := by simp [unitary, h]
theorem unitary_yes {m : List (List DO)} (h : (mulM (adjM m) m).2 = true) : unitary m = decide ((mulM (adjM m) m).1 = identM (qc (m.headD []).length)) := by simp [unitary, h]
theorem SzM.of_ok {m : List (List DO)} (h : okM m = true) : SzM m := by
  have h1 := okM_len h
  refine ⟨by omega, fun r hr => ?_⟩
  have := (okM_rows h hr).1
  omega
theorem mulM_ok {a b : List (List DO)} (h : (mulM a b).2 = true) : okM a = true ∧ okM b = true ∧ a.length = b.length := by
  unfold mulM at h
  split at h
  · rename_i hc
    simpa using hc
  · simp at h
theorem mulM_sz (a b : List (List DO)) : SzM (mulM a b).1 := by
  unfold mulM
  split
  · rename_i hc
    simp only [Bool.and_eq_true, decide_eq_true_eq] at hc
    have hb := okM_len hc.2.1
    split
    · refine ⟨by simp [flip]; omega, fun r hr => ?_⟩
      have := mem_flip_length hr
      simp [flip] at this
      omega
    · exact ⟨Nat.zero_le _, fun r hr => by cases hr⟩
  · exact ⟨Nat.zero_le _, fun r hr => by cases hr⟩
theorem identM_sz (n : Int) : SzM (identM n) := by
  by_cases h : inR 1 4 n = true
  · have hn := (inR_iff _ _ _).1 h
    have hcase : n = 1 ∨ n = 2 ∨ n = 3 ∨ n = 4 := by omega
    have hl : ∀ i : Int, (basis n i).length ≤ 16 := fun i => by
      unfold basis
      split
      · rw [List.length_set, List.length_replicate]
        rcases hcase with rfl | rfl | rfl | rfl <;> decide
      · simp
    rw [identM, if_pos h]
    refine ⟨by rw [List.length_map, List.length_range]; rcases hcase with rfl | rfl | rfl | rfl <;> decide, fun r hr => ?_⟩
    obtain ⟨i, _, rfl⟩ := List.mem_map.1 hr
    have := hl i
    omega
  · rw [identM_no h]
    exact ⟨Nat.zero_le _, fun r hr => by cases hr⟩
theorem adjM_sz (m : List (List DO)) : SzM (adjM m) := by
  by_cases h : okM m = true
  · rw [adjM_yes h]
    have hl := okM_len h
    refine ⟨by simp [flip]; omega, fun r hr => ?_⟩
    obtain ⟨c, hc, rfl⟩ := List.mem_map.1 hr
    have := mem_flip_length hc
    rw [List.length_map]
    omega
  · rw [adjM_no h]
    exact ⟨Nat.zero_le _, fun r hr => by cases hr⟩

set_option maxRecDepth 100000 in
set_option maxHeartbeats 8000000 in
theorem iIdentityMatrix (n : Int) (w : World) :
    Calls Try.prog 105 #[.int .i64 n] w fun e w' => ∃ v, e = .returned v ∧ OwnM w' w.heap.size v (identM n) ∧ Below w.heap.size w w' := by
  obtain ⟨iS, hiS, hzS0, hzS1, hzS2⟩ := info_parts infoS
  by_cases hn : inR 1 4 n = true
  · have hn' := (inR_iff _ _ _).1 hn
    have hcase : n = 1 ∨ n = 2 ∨ n = 3 ∨ n = 4 := by omega
    rcases hcase with rfl | rfl | rfl | rfl
    · have hlen : (identM 1).length = 2 := rfl
      have hfin := Lib.hid (identM_take (n := 1) (N := 2) rfl rfl)
      have HL := Lib.hid hlen
      clear hlen
      go_enter Try.func105, Try.ntmps105
      go_wp2_with (go_at_call 116; refine (iIn _ _ _ _).mono ?_; rintro e w1 ⟨rfl, rfl⟩)
      go_loopw [3, 4] (fun v x wr => ∃ j : Nat, x = .int .i64 j ∧ j ≤ 2 ∧ OwnM wr w.heap.size v ((identM 1).take j) ∧ Below w.heap.size w wr) (fun _ x _ => 2 - (intOf x).toNat)
      case atStart => exact ⟨0, rfl, Nat.zero_le _, OwnM.empty (Nat.le_refl _), by (repeat (first | with_reducible exact Below.refl _ _ | with_reducible assumption | with_reducible refine Below.setCell ?_ (by first | omega | (simp; done) | (simp; omega)) _ | with_reducible refine Below.alloc ?_ (by first | omega | (simp; done) | (simp; omega)) _ | with_reducible refine Below.drew ?_ | with_reducible refine belowDrewN ?_ _ | with_reducible refine Below.trans ?_ (Below.mono (by assumption) (by first | omega | (simp; done) | (simp; omega)))))⟩
      case round =>
        obtain ⟨j, rfl, h0, hM, hb0⟩ := hrel
        have hs0 := hb0.size
        by_cases hj : j < 2
        · have htl : ((identM 1).take j).length = j := by rw [List.length_take, HL.out]; omega
          go_wp2_with fail
          refine (iBasisState _ _ _).mono ?_
          rintro e w7 ⟨x, rfl, hx, hb7⟩
          obtain ⟨vs, ho, hrows, hdist⟩ := hM
          have hb8 : Below w.heap.size w w7 := hb0.trans (hb7.mono hs0)
          have hs8 := hb8.size
          obtain ⟨xo, xc, rfl, _, _, _⟩ := hx.read
          have ho1 := ownsRow_below ho hb7 (Nat.le_refl _)
          go_wp2_with (first | (at_builtin; refine wpList_append_own _ rfl _ _ 26 rfl w.heap.size TS iS _ 1 24 Try.underlying26 hiS hzS0 hzS1 hzS2 rfl (by decide) _ _ _ rfl (World.ownsRow.alloc ho1 _) ⟨w7.heap.size, 0, none⟩ 1 1 [.slice xo (basis 1 j).length xc] rfl rfl ?c1 ?c2 ?c3 ?c4 ?c5 ?_))
          case c1 => exact at_new _ [Value.slice xo (basis 1 j).length xc] _
          case c2 => exact slice_one _ _ _
          case c3 => rw [htl]; unfold maxLen; omega
          case c4 => rw [htl]; omega
          case c5 => simp; omega
          intro v' w' hown' hgrow _
          have hM' : OwnM w' w.heap.size v' ((identM 1).take (j + 1)) := by
            rw [hfin.out j hj]
            exact OwnM.snoc hs0 ho hrows hdist hb7 hx (by rw [htl]; exact hown') hgrow
          have hbb : Below w.heap.size w w' := (hb8.alloc hs8 _).grown hgrow (by simp; omega) fun g hg => (World.ownsRow.lt ho1 g hg).1
          clear hown' hgrow ho ho1 hrows hdist
          go_wp2
          go_roundw
          case rel => exact ⟨j + 1, by go_num, by omega, hM', hbb⟩
          case measure => simp [intOf]; omega
        · have hjn : j = 2 := by omega
          subst hjn
          have htk : (identM 1).take 2 = identM 1 := List.take_of_length_le (by rw [HL.out]; exact Nat.le_refl _)
          rw [htk] at hM
          go_wp2
          go_ret
          exact ⟨_, rfl, hM, hb0⟩
    · have hlen : (identM 2).length = 4 := rfl
      have hfin := Lib.hid (identM_take (n := 2) (N := 4) rfl rfl)
      have HL := Lib.hid hlen
      clear hlen
      go_enter Try.func105, Try.ntmps105
      go_wp2_with (go_at_call 116; refine (iIn _ _ _ _).mono ?_; rintro e w1 ⟨rfl, rfl⟩)
      go_loopw [3, 4] (fun v x wr => ∃ j : Nat, x = .int .i64 j ∧ j ≤ 4 ∧ OwnM wr w.heap.size v ((identM 2).take j) ∧ Below w.heap.size w wr) (fun _ x _ => 4 - (intOf x).toNat)
      case atStart => exact ⟨0, rfl, Nat.zero_le _, OwnM.empty (Nat.le_refl _), by (repeat (first | with_reducible exact Below.refl _ _ | with_reducible assumption | with_reducible refine Below.setCell ?_ (by first | omega | (simp; done) | (simp; omega)) _ | with_reducible refine Below.alloc ?_ (by first | omega | (simp; done) | (simp; omega)) _ | with_reducible refine Below.drew ?_ | with_reducible refine belowDrewN ?_ _ | with_reducible refine Below.trans ?_ (Below.mono (by assumption) (by first | omega | (simp; done) | (simp; omega)))))⟩
      case round =>
        obtain ⟨j, rfl, h0, hM, hb0⟩ := hrel
        have hs0 := hb0.size
        by_cases hj : j < 4
        · have htl : ((identM 2).take j).length = j := by rw [List.length_take, HL.out]; omega
          go_wp2_with fail
          refine (iBasisState _ _ _).mono ?_
          rintro e w7 ⟨x, rfl, hx, hb7⟩
          obtain ⟨vs, ho, hrows, hdist⟩ := hM
          have hb8 : Below w.heap.size w w7 := hb0.trans (hb7.mono hs0)
          have hs8 := hb8.size
          obtain ⟨xo, xc, rfl, _, _, _⟩ := hx.read
          have ho1 := ownsRow_below ho hb7 (Nat.le_refl _)
          go_wp2_with (first | (at_builtin; refine wpList_append_own _ rfl _ _ 26 rfl w.heap.size TS iS _ 1 24 Try.underlying26 hiS hzS0 hzS1 hzS2 rfl (by decide) _ _ _ rfl (World.ownsRow.alloc ho1 _) ⟨w7.heap.size, 0, none⟩ 1 1 [.slice xo (basis 2 j).length xc] rfl rfl ?c1 ?c2 ?c3 ?c4 ?c5 ?_))
          case c1 => exact at_new _ [Value.slice xo (basis 2 j).length xc] _
          case c2 => exact slice_one _ _ _
          case c3 => rw [htl]; unfold maxLen; omega
          case c4 => rw [htl]; omega
          case c5 => simp; omega
          intro v' w' hown' hgrow _
          have hM' : OwnM w' w.heap.size v' ((identM 2).take (j + 1)) := by
            rw [hfin.out j hj]
            exact OwnM.snoc hs0 ho hrows hdist hb7 hx (by rw [htl]; exact hown') hgrow
          have hbb : Below w.heap.size w w' := (hb8.alloc hs8 _).grown hgrow (by simp; omega) fun g hg => (World.ownsRow.lt ho1 g hg).1
          clear hown' hgrow ho ho1 hrows hdist
          go_wp2
          go_roundw
          case rel => exact ⟨j + 1, by go_num, by omega, hM', hbb⟩
          case measure => simp [intOf]; omega
        · have hjn : j = 4 := by omega
          subst hjn
          have htk : (identM 2).take 4 = identM 2 := List.take_of_length_le (by rw [HL.out]; exact Nat.le_refl _)
          rw [htk] at hM
          go_wp2
          go_ret
          exact ⟨_, rfl, hM, hb0⟩
    · have hlen : (identM 3).length = 8 := rfl
      have hfin := Lib.hid (identM_take (n := 3) (N := 8) rfl rfl)
      have HL := Lib.hid hlen
      clear hlen
      go_enter Try.func105, Try.ntmps105
      go_wp2_with (go_at_call 116; refine (iIn _ _ _ _).mono ?_; rintro e w1 ⟨rfl, rfl⟩)
      go_loopw [3, 4] (fun v x wr => ∃ j : Nat, x = .int .i64 j ∧ j ≤ 8 ∧ OwnM wr w.heap.size v ((identM 3).take j) ∧ Below w.heap.size w wr) (fun _ x _ => 8 - (intOf x).toNat)
      case atStart => exact ⟨0, rfl, Nat.zero_le _, OwnM.empty (Nat.le_refl _), by (repeat (first | with_reducible exact Below.refl _ _ | with_reducible assumption | with_reducible refine Below.setCell ?_ (by first | omega | (simp; done) | (simp; omega)) _ | with_reducible refine Below.alloc ?_ (by first | omega | (simp; done) | (simp; omega)) _ | with_reducible refine Below.drew ?_ | with_reducible refine belowDrewN ?_ _ | with_reducible refine Below.trans ?_ (Below.mono (by assumption) (by first | omega | (simp; done) | (simp; omega)))))⟩
      case round =>
        obtain ⟨j, rfl, h0, hM, hb0⟩ := hrel
        have hs0 := hb0.size
        by_cases hj : j < 8
        · have htl : ((identM 3).take j).length = j := by rw [List.length_take, HL.out]; omega
          go_wp2_with fail
          refine (iBasisState _ _ _).mono ?_
          rintro e w7 ⟨x, rfl, hx, hb7⟩
          obtain ⟨vs, ho, hrows, hdist⟩ := hM
          have hb8 : Below w.heap.size w w7 := hb0.trans (hb7.mono hs0)
          have hs8 := hb8.size
          obtain ⟨xo, xc, rfl, _, _, _⟩ := hx.read
          have ho1 := ownsRow_below ho hb7 (Nat.le_refl _)
          go_wp2_with (first | (at_builtin; refine wpList_append_own _ rfl _ _ 26 rfl w.heap.size TS iS _ 1 24 Try.underlying26 hiS hzS0 hzS1 hzS2 rfl (by decide) _ _ _ rfl (World.ownsRow.alloc ho1 _) ⟨w7.heap.size, 0, none⟩ 1 1 [.slice xo (basis 3 j).length xc] rfl rfl ?c1 ?c2 ?c3 ?c4 ?c5 ?_))
          case c1 => exact at_new _ [Value.slice xo (basis 3 j).length xc] _
          case c2 => exact slice_one _ _ _
          case c3 => rw [htl]; unfold maxLen; omega
          case c4 => rw [htl]; omega
          case c5 => simp; omega
          intro v' w' hown' hgrow _
          have hM' : OwnM w' w.heap.size v' ((identM 3).take (j + 1)) := by
            rw [hfin.out j hj]
            exact OwnM.snoc hs0 ho hrows hdist hb7 hx (by rw [htl]; exact hown') hgrow
          have hbb : Below w.heap.size w w' := (hb8.alloc hs8 _).grown hgrow (by simp; omega) fun g hg => (World.ownsRow.lt ho1 g hg).1
          clear hown' hgrow ho ho1 hrows hdist
          go_wp2
          go_roundw
          case rel => exact ⟨j + 1, by go_num, by omega, hM', hbb⟩
          case measure => simp [intOf]; omega
        · have hjn : j = 8 := by omega
          subst hjn
          have htk : (identM 3).take 8 = identM 3 := List.take_of_length_le (by rw [HL.out]; exact Nat.le_refl _)
          rw [htk] at hM
          go_wp2
          go_ret
          exact ⟨_, rfl, hM, hb0⟩
    · have hlen : (identM 4).length = 16 := rfl
      have hfin := Lib.hid (identM_take (n := 4) (N := 16) rfl rfl)
      have HL := Lib.hid hlen
      clear hlen
      go_enter Try.func105, Try.ntmps105
      go_wp2_with (go_at_call 116; refine (iIn _ _ _ _).mono ?_; rintro e w1 ⟨rfl, rfl⟩)
      go_loopw [3, 4] (fun v x wr => ∃ j : Nat, x = .int .i64 j ∧ j ≤ 16 ∧ OwnM wr w.heap.size v ((identM 4).take j) ∧ Below w.heap.size w wr) (fun _ x _ => 16 - (intOf x).toNat)
      case atStart => exact ⟨0, rfl, Nat.zero_le _, OwnM.empty (Nat.le_refl _), by (repeat (first | with_reducible exact Below.refl _ _ | with_reducible assumption | with_reducible refine Below.setCell ?_ (by first | omega | (simp; done) | (simp; omega)) _ | with_reducible refine Below.alloc ?_ (by first | omega | (simp; done) | (simp; omega)) _ | with_reducible refine Below.drew ?_ | with_reducible refine belowDrewN ?_ _ | with_reducible refine Below.trans ?_ (Below.mono (by assumption) (by first | omega | (simp; done) | (simp; omega)))))⟩
      case round =>
        obtain ⟨j, rfl, h0, hM, hb0⟩ := hrel
        have hs0 := hb0.size
        by_cases hj : j < 16
        · have htl : ((identM 4).take j).length = j := by rw [List.length_take, HL.out]; omega
          go_wp2_with fail
          refine (iBasisState _ _ _).mono ?_
          rintro e w7 ⟨x, rfl, hx, hb7⟩
          obtain ⟨vs, ho, hrows, hdist⟩ := hM
          have hb8 : Below w.heap.size w w7 := hb0.trans (hb7.mono hs0)
          have hs8 := hb8.size
          obtain ⟨xo, xc, rfl, _, _, _⟩ := hx.read
          have ho1 := ownsRow_below ho hb7 (Nat.le_refl _)
          go_wp2_with (first | (at_builtin; refine wpList_append_own _ rfl _ _ 26 rfl w.heap.size TS iS _ 1 24 Try.underlying26 hiS hzS0 hzS1 hzS2 rfl (by decide) _ _ _ rfl (World.ownsRow.alloc ho1 _) ⟨w7.heap.size, 0, none⟩ 1 1 [.slice xo (basis 4 j).length xc] rfl rfl ?c1 ?c2 ?c3 ?c4 ?c5 ?_))
          case c1 => exact at_new _ [Value.slice xo (basis 4 j).length xc] _
          case c2 => exact slice_one _ _ _
          case c3 => rw [htl]; unfold maxLen; omega
          case c4 => rw [htl]; omega
          case c5 => simp; omega
          intro v' w' hown' hgrow _
          have hM' : OwnM w' w.heap.size v' ((identM 4).take (j + 1)) := by
            rw [hfin.out j hj]
            exact OwnM.snoc hs0 ho hrows hdist hb7 hx (by rw [htl]; exact hown') hgrow
          have hbb : Below w.heap.size w w' := (hb8.alloc hs8 _).grown hgrow (by simp; omega) fun g hg => (World.ownsRow.lt ho1 g hg).1
          clear hown' hgrow ho ho1 hrows hdist
          go_wp2
          go_roundw
          case rel => exact ⟨j + 1, by go_num, by omega, hM', hbb⟩
          case measure => simp [intOf]; omega
        · have hjn : j = 16 := by omega
          subst hjn
          have htk : (identM 4).take 16 = identM 4 := List.take_of_length_le (by rw [HL.out]; exact Nat.le_refl _)
          rw [htk] at hM
          go_wp2
          go_ret
          exact ⟨_, rfl, hM, hb0⟩
  · have hfin := Lib.hid (identM_no hn)
    go_enter Try.func105, Try.ntmps105
    go_wp2_with (go_at_call 116; refine (iIn _ _ _ _).mono ?_; rintro e w1 ⟨rfl, rfl⟩)
    go_ret
    rw [hfin.out]
    exact ⟨_, rfl, OwnM.nil _ _, by (repeat (first | with_reducible exact Below.refl _ _ | with_reducible assumption | with_reducible refine Below.setCell ?_ (by first | omega | (simp; done) | (simp; omega)) _ | with_reducible refine Below.alloc ?_ (by first | omega | (simp; done) | (simp; omega)) _ | with_reducible refine Below.drew ?_ | with_reducible refine belowDrewN ?_ _ | with_reducible refine Below.trans ?_ (Below.mono (by assumption) (by first | omega | (simp; done) | (simp; omega)))))⟩

set_option maxHeartbeats 4000000 in
theorem iIsUnitary (ao : Option Addr) (m : List (List DO)) (cap : Nat) (hz : SzM m) (w : World) (h : MtR w ao m) :
    Calls Try.prog 25 #[.slice ao m.length cap] w fun e w' => e = .returned (.bool (unitary m)) ∧ Below w.heap.size w w' := by
  go_enter Try.func25, Try.ntmps25
  go_wp2_with fail
  refine (iAdjointMatrix _ _ _ hz _ h).mono ?_
  rintro e w1 ⟨x, rfl, hx, hb1⟩
  have hs1 := hb1.size
  obtain ⟨xo, xc, rfl, hxR, _, _⟩ := hx.read
  go_wp2_with fail
  refine (iMulMatrix _ _ (adjM m) m _ _ (adjM_sz m) hz _ hxR (h.below hb1)).mono ?_
  rintro e w2 ⟨y, rfl, hy, hb2⟩
  have hb3 : Below w.heap.size w w2 := hb1.trans (hb2.mono hs1)
  have hs3 := hb3.size
  obtain ⟨yo, yc, rfl, hyR, _, _⟩ := hy.read
  by_cases hd : (mulM (adjM m) m).2 = true
  · have hfin := Lib.hid (unitary_yes hd)
    have hsz := mulM_sz (adjM m) m
    have hok := (mulM_ok hd).2.1
    have hm0 := okM_pos hok
    obtain ⟨b, o, rfl, hlt, ro, rc, hcell, hR⟩ := (h.below hb3) 0 hm0
    have hml : m[0].length ≤ 9223372036854775807 := by have := (okM_rows hok (List.getElem_mem hm0)).1; have := okM_len hok; omega
    have hhead : m.headD [] = m[0] := by
      cases m with
      | nil => exact absurd hm0 (Nat.lt_irrefl _)
      | cons r rs => rfl
    have HH := Lib.hid hhead
    clear hhead h hx hy hxR
    generalize (mulM (adjM m) m).1 = p at *
    rw [Nat.add_zero] at hcell
    go_wp2_with fail
    refine (iQubitCount _ _ _ hml _).mono ?_
    rintro e _ ⟨rfl, rfl⟩
    go_wp2_with fail
    refine (iIdentityMatrix _ _).mono ?_
    rintro e w4 ⟨z, rfl, hz4, hb4⟩
    have hs4 := hb4.size
    obtain ⟨zo, zc, rfl, hzR, _, _⟩ := hz4.read
    go_wp2_with fail
    refine (iEqualMatrix _ _ p (identM (qc m[0].length)) _ _ hsz (identM_sz _) _ (hyR.below hb4) hzR).mono ?_
    rintro e w5 ⟨rfl, hb5⟩
    have hs5 := hb5.size
    go_wp2
    go_ret
    exact ⟨by rw [hfin.out, HH.out]; rfl, by (repeat (first | with_reducible exact Below.refl _ _ | with_reducible assumption | with_reducible refine Below.setCell ?_ (by first | omega | (simp; done) | (simp; omega)) _ | with_reducible refine Below.alloc ?_ (by first | omega | (simp; done) | (simp; omega)) _ | with_reducible refine Below.drew ?_ | with_reducible refine belowDrewN ?_ _ | with_reducible refine Below.trans ?_ (Below.mono (by assumption) (by first | omega | (simp; done) | (simp; omega)))))⟩
  · have hfin := Lib.hid (unitary_no hd)
    go_wp2
    go_ret
    exact ⟨by rw [hfin.out]; rfl, by (repeat (first | with_reducible exact Below.refl _ _ | with_reducible assumption | with_reducible refine Below.setCell ?_ (by first | omega | (simp; done) | (simp; omega)) _ | with_reducible refine Below.alloc ?_ (by first | omega | (simp; done) | (simp; omega)) _ | with_reducible refine Below.drew ?_ | with_reducible refine belowDrewN ?_ _ | with_reducible refine Below.trans ?_ (Below.mono (by assumption) (by first | omega | (simp; done) | (simp; omega)))))⟩

end Go.Proofs.Yteckhaafdojoeaa

/-! S14: The reference's looks at states and matrices. -/
namespace Go.Proofs.Yteckhaafdojoeaa
open Go.RowKit

theorem sQubitCount (ao : Option Addr) (n cap : Nat) (hn : n ≤ 9223372036854775807) (w : World) :
    Calls Try.prog 70 #[.slice ao n cap] w fun e w' => e = .returned (.int .i64 (qc n)) ∧ w = w' := by
  by_cases h2 : n = 2
  · subst h2
    go_enter Try.func70, Try.ntmps70
    go_wp2
    refine wp_loop_rounds 6 ?_
    iterate 6 (try (rw [rounds_succ]; go_wp2))
    go_ret
    exact ⟨rfl, rfl⟩
  · skip
    by_cases h4 : n = 4
    · subst h4
      go_enter Try.func70, Try.ntmps70
      go_wp2
      refine wp_loop_rounds 6 ?_
      iterate 6 (try (rw [rounds_succ]; go_wp2))
      go_ret
      exact ⟨rfl, rfl⟩
    · skip
      by_cases h8 : n = 8
      · subst h8
        go_enter Try.func70, Try.ntmps70
        go_wp2
        refine wp_loop_rounds 6 ?_
        iterate 6 (try (rw [rounds_succ]; go_wp2))
        go_ret
        exact ⟨rfl, rfl⟩
      · skip
        by_cases h16 : n = 16
        · subst h16
          go_enter Try.func70, Try.ntmps70
          go_wp2
          refine wp_loop_rounds 6 ?_
          iterate 6 (try (rw [rounds_succ]; go_wp2))
          go_ret
          exact ⟨rfl, rfl⟩
        · skip
          have hz := qc_of h2 h4 h8 h16
          have g2 : ((n : Int) == 2) = false := by rw [beq_eq_false_iff_ne]; omega
          have g4 : ((n : Int) == 4) = false := by rw [beq_eq_false_iff_ne]; omega
          have g8 : ((n : Int) == 8) = false := by rw [beq_eq_false_iff_ne]; omega
          have g16 : ((n : Int) == 16) = false := by rw [beq_eq_false_iff_ne]; omega
          rw [hz]
          go_enter Try.func70, Try.ntmps70
          go_wp2
          refine wp_loop_rounds 6 ?_
          iterate 6 (try (rw [rounds_succ]; go_wp2))
          go_ret
          exact ⟨rfl, rfl⟩


theorem okS_all {l : List DO} (h : ∀ i (hi : i < l.length), l[i].ok = true) : okS l = decide (0 < qc l.length) := by
  rw [okS]
  have : l.all DO.ok = true := by
    rw [List.all_eq_true]
    intro x hx
    obtain ⟨i, hi, rfl⟩ := List.getElem_of_mem hx
    exact h i hi
  rw [this, Bool.and_true]
  by_cases h0 : qc l.length = 0
  · simp [h0]
  · rw [decide_eq_true (by omega)]
    simpa using h0

set_option maxHeartbeats 2000000 in
theorem sIsValidState (ao : Option Addr) (l : List DO) (cap : Nat) (hn : l.length ≤ 1000000000) (w : World) (h : StR w ao l) :
    Calls Try.prog 119 #[.slice ao l.length cap] w fun e w' => e = .returned (.bool (okS l)) ∧ Below w.heap.size w w' := by
  go_enter Try.func119, Try.ntmps119
  go_wp2
  go_loopw [3] (fun v wr => ∃ j : Nat, v = .int .i64 j ∧ j ≤ l.length ∧ Hid (∀ i (hi : i < l.length), i < j → l[i].ok = true) ∧ Below w.heap.size w wr) (fun v _ => l.length - (intOf v).toNat)
  case atStart => exact ⟨0, rfl, Nat.zero_le _, fun _ _ h => absurd h (Nat.not_lt_zero _), Below.refl _ _⟩
  case round =>
    obtain ⟨j, rfl, h0, hall, hb0⟩ := hrel
    by_cases hj : j < l.length
    · obtain ⟨b, o, rfl, hlt, hD⟩ := (h.below hb0) j hj
      obtain ⟨d0, d1, d2, d3, d4⟩ := hD
      have hs0 := hb0.size
      by_cases hx : l[j].ok = true
      · go_wp2_with (go_at_call 164; refine (sIsValidD' l[j] _).mono ?_; rintro e w1 ⟨rfl, hb⟩)
        go_roundw
        case rel => exact ⟨j + 1, by go_num, by omega, all_step hall.out hx, by (repeat (first | with_reducible exact Below.refl _ _ | with_reducible assumption | with_reducible refine Below.setCell ?_ (by first | omega | (simp; done) | (simp; omega)) _ | with_reducible refine Below.alloc ?_ (by first | omega | (simp; done) | (simp; omega)) _ | with_reducible refine Below.drew ?_ | with_reducible refine belowDrewN ?_ _ | with_reducible refine Below.trans ?_ (Below.mono (by assumption) (by first | omega | (simp; done) | (simp; omega)))))⟩
        case measure => simp [intOf]; omega
      · have hfin : okS l = false := okS_no hj hx
        go_wp2_with (go_at_call 164; refine (sIsValidD' l[j] _).mono ?_; rintro e w1 ⟨rfl, hb⟩)
        go_ret
        exact ⟨by rw [hfin]; rfl, by (repeat (first | with_reducible exact Below.refl _ _ | with_reducible assumption | with_reducible refine Below.setCell ?_ (by first | omega | (simp; done) | (simp; omega)) _ | with_reducible refine Below.alloc ?_ (by first | omega | (simp; done) | (simp; omega)) _ | with_reducible refine Below.drew ?_ | with_reducible refine belowDrewN ?_ _ | with_reducible refine Below.trans ?_ (Below.mono (by assumption) (by first | omega | (simp; done) | (simp; omega)))))⟩
    · have hfin := Lib.hid (okS_all (l := l) (by intro i hi; exact hall.out i hi (by omega)))
      go_wp2_with (go_at_call 70; refine (sQubitCount _ _ _ (by omega) _).mono ?_; rintro e w1 ⟨rfl, rfl⟩)
      go_ret
      exact ⟨by rw [hfin.out]; simp, by (repeat (first | with_reducible exact Below.refl _ _ | with_reducible assumption | with_reducible refine Below.setCell ?_ (by first | omega | (simp; done) | (simp; omega)) _ | with_reducible refine Below.alloc ?_ (by first | omega | (simp; done) | (simp; omega)) _ | with_reducible refine Below.drew ?_ | with_reducible refine belowDrewN ?_ _ | with_reducible refine Below.trans ?_ (Below.mono (by assumption) (by first | omega | (simp; done) | (simp; omega)))))⟩

set_option maxHeartbeats 4000000 in
theorem sIsValidMatrix (ao : Option Addr) (m : List (List DO)) (cap : Nat) (hz : SzM m) (w : World) (h : MtR w ao m) :
    Calls Try.prog 77 #[.slice ao m.length cap] w fun e w' => e = .returned (.bool (okM m)) ∧ Below w.heap.size w w' := by
  obtain ⟨hz1, hz2⟩ := hz
  go_enter Try.func77, Try.ntmps77
  go_wp2
  go_loopw [3] (fun x wr => ∃ j : Nat, x = .int .i64 j ∧ j ≤ m.length ∧ Hid (∀ i (hi : i < m.length), i < j → m[i].length = m.length ∧ okS m[i] = true) ∧ Below w.heap.size w wr) (fun x _ => m.length - (intOf x).toNat)
  case atStart => exact ⟨0, rfl, Nat.zero_le _, fun _ _ h => absurd h (Nat.not_lt_zero _), by (repeat (first | with_reducible exact Below.refl _ _ | with_reducible assumption | with_reducible refine Below.setCell ?_ (by first | omega | (simp; done) | (simp; omega)) _ | with_reducible refine Below.alloc ?_ (by first | omega | (simp; done) | (simp; omega)) _ | with_reducible refine Below.drew ?_ | with_reducible refine belowDrewN ?_ _ | with_reducible refine Below.trans ?_ (Below.mono (by assumption) (by first | omega | (simp; done) | (simp; omega)))))⟩
  case round =>
    obtain ⟨j, rfl, h0, hinv, hb0⟩ := hrel
    have hs0 := hb0.size
    by_cases hj : j < m.length
    · obtain ⟨b, o, rfl, hlt, ro, rc, hcell, hR⟩ := (h.below hb0) j hj
      have hz3 : m[j].length ≤ 1000000000 := by have := hz2 m[j] (List.getElem_mem _); omega
      clear h
      by_cases hl : m[j].length = m.length
      · have hl' : ((m[j].length : Int) != (m.length : Int)) = false := by simp [hl]
        have HL := Lib.hid hl
        clear hl
        by_cases hx : okS m[j] = true
        · go_wp2_with (go_at_call 119; refine (sIsValidState _ _ _ hz3 _ (hR.below (by (repeat (first | with_reducible exact Below.refl _ _ | with_reducible assumption | with_reducible refine Below.setCell ?_ (by first | omega | (simp; done) | (simp; omega)) _ | with_reducible refine Below.alloc ?_ (by first | omega | (simp; done) | (simp; omega)) _ | with_reducible refine Below.drew ?_ | with_reducible refine belowDrewN ?_ _ | with_reducible refine Below.trans ?_ (Below.mono (by assumption) (by first | omega | (simp; done) | (simp; omega)))))))).mono ?_; rintro e w1 ⟨rfl, hb⟩)
          go_roundw
          case rel => exact ⟨j + 1, by go_num, by omega, rows_step hinv.out ⟨HL.out, hx⟩, by (repeat (first | with_reducible exact Below.refl _ _ | with_reducible assumption | with_reducible refine Below.setCell ?_ (by first | omega | (simp; done) | (simp; omega)) _ | with_reducible refine Below.alloc ?_ (by first | omega | (simp; done) | (simp; omega)) _ | with_reducible refine Below.drew ?_ | with_reducible refine belowDrewN ?_ _ | with_reducible refine Below.trans ?_ (Below.mono (by assumption) (by first | omega | (simp; done) | (simp; omega)))))⟩
          case measure => simp [intOf]; omega
        · have hfin := Lib.hid (okM_no hj (fun h => hx h.2))
          go_wp2_with (go_at_call 119; refine (sIsValidState _ _ _ hz3 _ (hR.below (by (repeat (first | with_reducible exact Below.refl _ _ | with_reducible assumption | with_reducible refine Below.setCell ?_ (by first | omega | (simp; done) | (simp; omega)) _ | with_reducible refine Below.alloc ?_ (by first | omega | (simp; done) | (simp; omega)) _ | with_reducible refine Below.drew ?_ | with_reducible refine belowDrewN ?_ _ | with_reducible refine Below.trans ?_ (Below.mono (by assumption) (by first | omega | (simp; done) | (simp; omega)))))))).mono ?_; rintro e w1 ⟨rfl, hb⟩)
          go_ret
          exact ⟨by rw [hfin.out]; rfl, by (repeat (first | with_reducible exact Below.refl _ _ | with_reducible assumption | with_reducible refine Below.setCell ?_ (by first | omega | (simp; done) | (simp; omega)) _ | with_reducible refine Below.alloc ?_ (by first | omega | (simp; done) | (simp; omega)) _ | with_reducible refine Below.drew ?_ | with_reducible refine belowDrewN ?_ _ | with_reducible refine Below.trans ?_ (Below.mono (by assumption) (by first | omega | (simp; done) | (simp; omega)))))⟩
      · have hl' : ((m[j].length : Int) != (m.length : Int)) = true := by simp; omega
        have hfin := Lib.hid (okM_no hj (fun h => hl h.1))
        clear hl
        go_wp2
        go_ret
        exact ⟨by rw [hfin.out]; rfl, by (repeat (first | with_reducible exact Below.refl _ _ | with_reducible assumption | with_reducible refine Below.setCell ?_ (by first | omega | (simp; done) | (simp; omega)) _ | with_reducible refine Below.alloc ?_ (by first | omega | (simp; done) | (simp; omega)) _ | with_reducible refine Below.drew ?_ | with_reducible refine belowDrewN ?_ _ | with_reducible refine Below.trans ?_ (Below.mono (by assumption) (by first | omega | (simp; done) | (simp; omega)))))⟩
    · have hfin := Lib.hid (okM_yes (m := m) (fun i hi => hinv.out i hi (by omega)))
      go_wp2
      go_ret
      exact ⟨by rw [hfin.out]; simp, by (repeat (first | with_reducible exact Below.refl _ _ | with_reducible assumption | with_reducible refine Below.setCell ?_ (by first | omega | (simp; done) | (simp; omega)) _ | with_reducible refine Below.alloc ?_ (by first | omega | (simp; done) | (simp; omega)) _ | with_reducible refine Below.drew ?_ | with_reducible refine belowDrewN ?_ _ | with_reducible refine Below.trans ?_ (Below.mono (by assumption) (by first | omega | (simp; done) | (simp; omega)))))⟩


end Go.Proofs.Yteckhaafdojoeaa

/-! S15: The reference's row by column, which passes zeros over. -/
namespace Go.Proofs.Yteckhaafdojoeaa
open Go.RowKit

def rowF : DO → List (DO × DO) → DO × Bool
  | s, [] => (s, true)
  | s, p :: r => if p.1 = ⟨⟨0, 0, 0, 0⟩, 0⟩ ∨ p.2 = ⟨⟨0, 0, 0, 0⟩, 0⟩ then rowF s r else
      if (mulD p.1 p.2).2 && (addD s (mulD p.1 p.2).1).2 then rowF (addD s (mulD p.1 p.2).1).1 r else (⟨⟨0, 0, 0, 0⟩, 0⟩, false)
def row (u v : List DO) : DO × Bool := rowF ⟨⟨0, 0, 0, 0⟩, 0⟩ (u.zip v)
theorem rowF_skip {s : DO} {u v : List DO} {j : Nat} {R : DO × Bool} (hj : j < u.length) (hv : u.length ≤ v.length) (h : rowF s ((u.zip v).drop j) = R)
    (h1 : u[j] = ⟨⟨0, 0, 0, 0⟩, 0⟩ ∨ v[j] = ⟨⟨0, 0, 0, 0⟩, 0⟩) : rowF s ((u.zip v).drop (j + 1)) = R := by
  rw [zip_drop hj hv, rowF, if_pos h1] at h
  exact h
theorem rowF_more {s : DO} {u v : List DO} {j : Nat} {R : DO × Bool} (hj : j < u.length) (hv : u.length ≤ v.length) (h : rowF s ((u.zip v).drop j) = R)
    (hx : ¬ u[j] = ⟨⟨0, 0, 0, 0⟩, 0⟩) (hy : ¬ v[j] = ⟨⟨0, 0, 0, 0⟩, 0⟩) (h1 : (mulD u[j] v[j]).2 = true) (h2 : (addD s (mulD u[j] v[j]).1).2 = true) : rowF (addD s (mulD u[j] v[j]).1).1 ((u.zip v).drop (j + 1)) = R := by
  rw [zip_drop hj hv, rowF, if_neg (by simp [hx, hy])] at h
  simpa [h1, h2] using h
theorem rowF_fail {s : DO} {u v : List DO} {j : Nat} {R : DO × Bool} (hj : j < u.length) (hv : u.length ≤ v.length) (h : rowF s ((u.zip v).drop j) = R)
    (hx : ¬ u[j] = ⟨⟨0, 0, 0, 0⟩, 0⟩) (hy : ¬ v[j] = ⟨⟨0, 0, 0, 0⟩, 0⟩) (h1 : ((mulD u[j] v[j]).2 && (addD s (mulD u[j] v[j]).1).2) = false) : R = (⟨⟨0, 0, 0, 0⟩, 0⟩, false) := by
  rw [zip_drop hj hv, rowF, if_neg (by simp [hx, hy]), if_neg (by rw [h1]; exact Bool.false_ne_true)] at h
  exact h.symm
theorem rowF_end {s : DO} {u v : List DO} {j : Nat} {R : DO × Bool} (hj : ¬ j < u.length) (hv : u.length ≤ v.length) (h : rowF s ((u.zip v).drop j) = R) : R = (s, true) := by
  rw [List.drop_eq_nil_of_le (by rw [List.length_zip]; omega), rowF] at h
  exact h.symm
theorem zero_fields {x : DO} (h : x = ⟨⟨0, 0, 0, 0⟩, 0⟩) : x.n.a = 0 ∧ x.n.b = 0 ∧ x.n.c = 0 ∧ x.n.d = 0 ∧ x.e = 0 := by subst h; exact ⟨rfl, rfl, rfl, rfl, rfl⟩
theorem eqIf0 {α : Type} (x : DO) (A B : α) : (if x.n.a = 0 then if x.n.b = 0 then if x.n.c = 0 then if x.n.d = 0 then if x.e = 0 then A else B else B else B else B else B) = if x = ⟨⟨0, 0, 0, 0⟩, 0⟩ then A else B := neqIf x ⟨⟨0, 0, 0, 0⟩, 0⟩ A B
attribute [local go_sem] eqIf0

set_option maxHeartbeats 8000000 in
theorem sRow (ao bo : Option Addr) (u v : List DO) (cu cv : Nat) (_hn : u.length ≤ 1000000000) (hn' : v.length ≤ 1000000000) (huv : u.length ≤ v.length) (w : World) (hu : StR w ao u) (hv : StR w bo v) :
    Calls Try.prog 181 #[.slice ao u.length cu, .slice bo v.length cv] w fun e w' => e = .returned (.tuple #[Dv (row u v).1, .bool (row u v).2]) ∧ Below w.heap.size w w' := by
  go_enter Try.func181, Try.ntmps181
  go_wp2
  go_loopw [7] (fun x wr => ∃ (s : DO) (j : Nat), x = .int .i64 j ∧ j ≤ u.length ∧ Hid (rowF s ((u.zip v).drop j) = row u v) ∧ Blk wr w.heap.size [.int .i64 0, .int .i64 0, .int .i64 0, .int .i64 0, .int .i64 0] 114 ∧ Blk wr (w.heap.size + 1) [.int .i64 s.n.a, .int .i64 s.n.b, .int .i64 s.n.c, .int .i64 s.n.d, .int .i64 s.e] 114 ∧ Below w.heap.size w wr) (fun x _ => u.length - (intOf x).toNat)
  case atStart => exact ⟨⟨⟨0, 0, 0, 0⟩, 0⟩, 0, rfl, Nat.zero_le _, rfl, by (repeat (first | with_reducible assumption | with_reducible exact Blk.new' _ _ (by first | omega | (simp; done) | (simp; omega)) | with_reducible apply Blk.set5 | with_reducible apply Blk.set4 | with_reducible refine Blk.other ?_ (by first | omega | (simp; done) | (simp; omega)) _ | with_reducible refine Blk.drew ?_ | with_reducible refine Blk.alloc ?_ _ | with_reducible refine Blk.below ?_ (by assumption) (by first | omega | (simp; done) | (simp; omega)))), by (repeat (first | with_reducible assumption | with_reducible exact Blk.new' _ _ (by first | omega | (simp; done) | (simp; omega)) | with_reducible apply Blk.set5 | with_reducible apply Blk.set4 | with_reducible refine Blk.other ?_ (by first | omega | (simp; done) | (simp; omega)) _ | with_reducible refine Blk.drew ?_ | with_reducible refine Blk.alloc ?_ _ | with_reducible refine Blk.below ?_ (by assumption) (by first | omega | (simp; done) | (simp; omega)))), by (repeat (first | with_reducible exact Below.refl _ _ | with_reducible assumption | with_reducible refine Below.setCell ?_ (by first | omega | (simp; done) | (simp; omega)) _ | with_reducible refine Below.alloc ?_ (by first | omega | (simp; done) | (simp; omega)) _ | with_reducible refine Below.drew ?_ | with_reducible refine belowDrewN ?_ _ | with_reducible refine Below.trans ?_ (Below.mono (by assumption) (by first | omega | (simp; done) | (simp; omega)))))⟩
  case round =>
    obtain ⟨⟨⟨p, q, r, s⟩, t⟩, j, rfl, h0, hinv, hB, hB1, hb0⟩ := hrel
    dsimp only at hB1
    obtain ⟨cB, fB, sB⟩ := hB.facts
    obtain ⟨cB1, fB1, sB1⟩ := hB1.facts
    have hs0 := hb0.size
    by_cases hj : j < u.length
    · have hjv : j < v.length := by omega
      obtain ⟨b, o, rfl, hlt, hD⟩ := (hu.below hb0) j hj
      obtain ⟨d0, d1, d2, d3, d4⟩ := hD
      obtain ⟨b', o', rfl, hlt', hD'⟩ := (hv.below hb0) j (by omega)
      obtain ⟨g0, g1, g2, g3, g4⟩ := hD'
      by_cases hx : u[j] = ⟨⟨0, 0, 0, 0⟩, 0⟩
      · have hnext := Lib.hid (rowF_skip hj huv hinv.out (.inl hx))
        obtain ⟨k0, k1, k2, k3, k4⟩ := zero_fields hx
        rw [k0] at d0; rw [k1] at d1; rw [k2] at d2; rw [k3] at d3; rw [k4] at d4
        clear hx k0 k1 k2 k3 k4
        go_wp2
        go_roundw
        case rel => exact ⟨⟨⟨p, q, r, s⟩, t⟩, j + 1, by go_num, by omega, hnext.out, hB, hB1, hb0⟩
        case measure => simp [intOf]; omega
      · by_cases hy : v[j] = ⟨⟨0, 0, 0, 0⟩, 0⟩
        · have hnext := Lib.hid (rowF_skip hj huv hinv.out (.inr hy))
          obtain ⟨k0, k1, k2, k3, k4⟩ := zero_fields hy
          rw [k0] at g0; rw [k1] at g1; rw [k2] at g2; rw [k3] at g3; rw [k4] at g4
          clear hy k0 k1 k2 k3 k4
          go_wp2
          go_roundw
          case rel => exact ⟨⟨⟨p, q, r, s⟩, t⟩, j + 1, by go_num, by omega, hnext.out, hB, hB1, hb0⟩
          case measure => simp [intOf]; omega
        · skip
          have hjv : j < v.length := by omega
          by_cases hm : (mulD u[j] v[j]).2 = true
          · by_cases ha : (addD ⟨⟨p, q, r, s⟩, t⟩ (mulD u[j] v[j]).1).2 = true
            · go_wp2
              go_region_held3 (fun w' => Below wr.heap.size wr w' ∧ (∀ b o, b < wr.heap.size → w'.cell? ⟨b, o, none⟩ = wr.cell? ⟨b, o, none⟩) ∧ (∀ b o, b < wr.heap.size → w'.frozen? ⟨b, o, none⟩ = wr.frozen? ⟨b, o, none⟩) ∧ wr.heap.size ≤ w'.heap.size) ((exact bpack (by (repeat (first | with_reducible exact Below.refl _ _ | with_reducible assumption | with_reducible refine Below.setCell ?_ (by first | omega | (simp; done) | (simp; omega)) _ | with_reducible refine Below.alloc ?_ (by first | omega | (simp; done) | (simp; omega)) _ | with_reducible refine Below.drew ?_ | with_reducible refine belowDrewN ?_ _ | with_reducible refine Below.trans ?_ (Below.mono (by assumption) (by first | omega | (simp; done) | (simp; omega)))))))) (first | (go_at_call 121; refine (sMulD' u[j] v[j] _).mono ?_; rintro e wa ⟨rfl, hb⟩; obtain ⟨hc, hf, hz⟩ := bcell hb; (try simp only [World.size_drew, World.cell?_drew, World.frozen?_drew] at hc hf hz); (try simp at hz); (try have kk := fun o => hc (w.heap.size) o (by first | omega | (simp; done) | (simp; omega))); (try have kf := fun o => hf (w.heap.size) o (by first | omega | (simp; done) | (simp; omega))); (try have zz : w.heap.size < wa.heap.size := by omega); (try have kk := fun o => hc (w.heap.size + 1) o (by first | omega | (simp; done) | (simp; omega))); (try have kf := fun o => hf (w.heap.size + 1) o (by first | omega | (simp; done) | (simp; omega))); (try have zz : w.heap.size + 1 < wa.heap.size := by omega); (try have kk := fun o => hc (wr.heap.size) o (by first | omega | (simp; done) | (simp; omega))); (try have kf := fun o => hf (wr.heap.size) o (by first | omega | (simp; done) | (simp; omega))); (try have zz : wr.heap.size < wa.heap.size := by omega)))
              all_goals go_wp2_with (go_at_call 122; refine (sAddD' ⟨⟨p, q, r, s⟩, t⟩ (mulD u[j] v[j]).1 _).mono ?_; rintro e w1 ⟨rfl, hb⟩; obtain ⟨hc, hf, hz⟩ := bcell hb; (try simp only [World.size_drew, World.cell?_drew, World.frozen?_drew] at hc hf hz); (try simp at hz); (try have kk := fun o => hc (w.heap.size) o (by first | omega | (simp; done) | (simp; omega))); (try have kf := fun o => hf (w.heap.size) o (by first | omega | (simp; done) | (simp; omega))); (try have zz : w.heap.size < w1.heap.size := by omega); (try have kk := fun o => hc (w.heap.size + 1) o (by first | omega | (simp; done) | (simp; omega))); (try have kf := fun o => hf (w.heap.size + 1) o (by first | omega | (simp; done) | (simp; omega))); (try have zz : w.heap.size + 1 < w1.heap.size := by omega))
              all_goals go_roundw
              all_goals first
                | exact ⟨(addD ⟨⟨p, q, r, s⟩, t⟩ (mulD u[j] v[j]).1).1, j + 1, by go_num, by omega, rowF_more hj huv hinv.out hx hy hm ha, by (repeat (first | with_reducible assumption | with_reducible exact Blk.new' _ _ (by first | omega | (simp; done) | (simp; omega)) | with_reducible apply Blk.set5 | with_reducible apply Blk.set4 | with_reducible refine Blk.other ?_ (by first | omega | (simp; done) | (simp; omega)) _ | with_reducible refine Blk.drew ?_ | with_reducible refine Blk.alloc ?_ _ | with_reducible refine Blk.below ?_ (by assumption) (by first | omega | (simp; done) | (simp; omega)))), by (repeat (first | with_reducible assumption | with_reducible exact Blk.new' _ _ (by first | omega | (simp; done) | (simp; omega)) | with_reducible apply Blk.set5 | with_reducible apply Blk.set4 | with_reducible refine Blk.other ?_ (by first | omega | (simp; done) | (simp; omega)) _ | with_reducible refine Blk.drew ?_ | with_reducible refine Blk.alloc ?_ _ | with_reducible refine Blk.below ?_ (by assumption) (by first | omega | (simp; done) | (simp; omega)))), by (repeat (first | with_reducible exact Below.refl _ _ | with_reducible assumption | with_reducible refine Below.setCell ?_ (by first | omega | (simp; done) | (simp; omega)) _ | with_reducible refine Below.alloc ?_ (by first | omega | (simp; done) | (simp; omega)) _ | with_reducible refine Below.drew ?_ | with_reducible refine belowDrewN ?_ _ | with_reducible refine Below.trans ?_ (Below.mono (by assumption) (by first | omega | (simp; done) | (simp; omega)))))⟩
                | (simp [intOf]; omega)
            · have hfin := Lib.hid (rowF_fail hj huv hinv.out hx hy (by simp [ha]))
              go_wp2
              go_region_held3 (fun w' => Below wr.heap.size wr w' ∧ (∀ b o, b < wr.heap.size → w'.cell? ⟨b, o, none⟩ = wr.cell? ⟨b, o, none⟩) ∧ (∀ b o, b < wr.heap.size → w'.frozen? ⟨b, o, none⟩ = wr.frozen? ⟨b, o, none⟩) ∧ wr.heap.size ≤ w'.heap.size) ((exact bpack (by (repeat (first | with_reducible exact Below.refl _ _ | with_reducible assumption | with_reducible refine Below.setCell ?_ (by first | omega | (simp; done) | (simp; omega)) _ | with_reducible refine Below.alloc ?_ (by first | omega | (simp; done) | (simp; omega)) _ | with_reducible refine Below.drew ?_ | with_reducible refine belowDrewN ?_ _ | with_reducible refine Below.trans ?_ (Below.mono (by assumption) (by first | omega | (simp; done) | (simp; omega)))))))) (first | (go_at_call 121; refine (sMulD' u[j] v[j] _).mono ?_; rintro e wa ⟨rfl, hb⟩; obtain ⟨hc, hf, hz⟩ := bcell hb; (try simp only [World.size_drew, World.cell?_drew, World.frozen?_drew] at hc hf hz); (try simp at hz); (try have kk := fun o => hc (w.heap.size) o (by first | omega | (simp; done) | (simp; omega))); (try have kf := fun o => hf (w.heap.size) o (by first | omega | (simp; done) | (simp; omega))); (try have zz : w.heap.size < wa.heap.size := by omega); (try have kk := fun o => hc (w.heap.size + 1) o (by first | omega | (simp; done) | (simp; omega))); (try have kf := fun o => hf (w.heap.size + 1) o (by first | omega | (simp; done) | (simp; omega))); (try have zz : w.heap.size + 1 < wa.heap.size := by omega); (try have kk := fun o => hc (wr.heap.size) o (by first | omega | (simp; done) | (simp; omega))); (try have kf := fun o => hf (wr.heap.size) o (by first | omega | (simp; done) | (simp; omega))); (try have zz : wr.heap.size < wa.heap.size := by omega)))
              all_goals go_wp2_with (go_at_call 122; refine (sAddD' ⟨⟨p, q, r, s⟩, t⟩ (mulD u[j] v[j]).1 _).mono ?_; rintro e w1 ⟨rfl, hb⟩; obtain ⟨hc, hf, hz⟩ := bcell hb; (try simp only [World.size_drew, World.cell?_drew, World.frozen?_drew] at hc hf hz); (try simp at hz); (try have kk := fun o => hc (w.heap.size) o (by first | omega | (simp; done) | (simp; omega))); (try have kf := fun o => hf (w.heap.size) o (by first | omega | (simp; done) | (simp; omega))); (try have zz : w.heap.size < w1.heap.size := by omega); (try have kk := fun o => hc (w.heap.size + 1) o (by first | omega | (simp; done) | (simp; omega))); (try have kf := fun o => hf (w.heap.size + 1) o (by first | omega | (simp; done) | (simp; omega))); (try have zz : w.heap.size + 1 < w1.heap.size := by omega))
              all_goals exact bodyPost_ret (v := .tuple #[.agg #[.int .i64 0, .int .i64 0, .int .i64 0, .int .i64 0, .int .i64 0], .bool false]) (by simp [results, Try.results181, go_sem, *]) rfl ⟨by rw [hfin.out], by (repeat (first | with_reducible exact Below.refl _ _ | with_reducible assumption | with_reducible refine Below.setCell ?_ (by first | omega | (simp; done) | (simp; omega)) _ | with_reducible refine Below.alloc ?_ (by first | omega | (simp; done) | (simp; omega)) _ | with_reducible refine Below.drew ?_ | with_reducible refine belowDrewN ?_ _ | with_reducible refine Below.trans ?_ (Below.mono (by assumption) (by first | omega | (simp; done) | (simp; omega)))))⟩
          · have hfin := Lib.hid (rowF_fail hj huv hinv.out hx hy (by simp [hm]))
            go_wp2
            go_region_held3 (fun w' => Below wr.heap.size wr w' ∧ (∀ b o, b < wr.heap.size → w'.cell? ⟨b, o, none⟩ = wr.cell? ⟨b, o, none⟩) ∧ (∀ b o, b < wr.heap.size → w'.frozen? ⟨b, o, none⟩ = wr.frozen? ⟨b, o, none⟩) ∧ wr.heap.size ≤ w'.heap.size) ((exact bpack (by (repeat (first | with_reducible exact Below.refl _ _ | with_reducible assumption | with_reducible refine Below.setCell ?_ (by first | omega | (simp; done) | (simp; omega)) _ | with_reducible refine Below.alloc ?_ (by first | omega | (simp; done) | (simp; omega)) _ | with_reducible refine Below.drew ?_ | with_reducible refine belowDrewN ?_ _ | with_reducible refine Below.trans ?_ (Below.mono (by assumption) (by first | omega | (simp; done) | (simp; omega)))))))) (first | (go_at_call 121; refine (sMulD' u[j] v[j] _).mono ?_; rintro e wa ⟨rfl, hb⟩; obtain ⟨hc, hf, hz⟩ := bcell hb; (try simp only [World.size_drew, World.cell?_drew, World.frozen?_drew] at hc hf hz); (try simp at hz); (try have kk := fun o => hc (w.heap.size) o (by first | omega | (simp; done) | (simp; omega))); (try have kf := fun o => hf (w.heap.size) o (by first | omega | (simp; done) | (simp; omega))); (try have zz : w.heap.size < wa.heap.size := by omega); (try have kk := fun o => hc (w.heap.size + 1) o (by first | omega | (simp; done) | (simp; omega))); (try have kf := fun o => hf (w.heap.size + 1) o (by first | omega | (simp; done) | (simp; omega))); (try have zz : w.heap.size + 1 < wa.heap.size := by omega); (try have kk := fun o => hc (wr.heap.size) o (by first | omega | (simp; done) | (simp; omega))); (try have kf := fun o => hf (wr.heap.size) o (by first | omega | (simp; done) | (simp; omega))); (try have zz : wr.heap.size < wa.heap.size := by omega)))
            all_goals go_wp2_with (go_at_call 122; refine (sAddD' ⟨⟨p, q, r, s⟩, t⟩ (mulD u[j] v[j]).1 _).mono ?_; rintro e w1 ⟨rfl, hb⟩; obtain ⟨hc, hf, hz⟩ := bcell hb; (try simp only [World.size_drew, World.cell?_drew, World.frozen?_drew] at hc hf hz); (try simp at hz); (try have kk := fun o => hc (w.heap.size) o (by first | omega | (simp; done) | (simp; omega))); (try have kf := fun o => hf (w.heap.size) o (by first | omega | (simp; done) | (simp; omega))); (try have zz : w.heap.size < w1.heap.size := by omega); (try have kk := fun o => hc (w.heap.size + 1) o (by first | omega | (simp; done) | (simp; omega))); (try have kf := fun o => hf (w.heap.size + 1) o (by first | omega | (simp; done) | (simp; omega))); (try have zz : w.heap.size + 1 < w1.heap.size := by omega))
            all_goals exact bodyPost_ret (v := .tuple #[.agg #[.int .i64 0, .int .i64 0, .int .i64 0, .int .i64 0, .int .i64 0], .bool false]) (by simp [results, Try.results181, go_sem, *]) rfl ⟨by rw [hfin.out], by (repeat (first | with_reducible exact Below.refl _ _ | with_reducible assumption | with_reducible refine Below.setCell ?_ (by first | omega | (simp; done) | (simp; omega)) _ | with_reducible refine Below.alloc ?_ (by first | omega | (simp; done) | (simp; omega)) _ | with_reducible refine Below.drew ?_ | with_reducible refine belowDrewN ?_ _ | with_reducible refine Below.trans ?_ (Below.mono (by assumption) (by first | omega | (simp; done) | (simp; omega)))))⟩
    · have hfin := Lib.hid (rowF_end hj huv hinv.out)
      go_wp2
      exact bodyPost_ret (v := .tuple #[.agg #[.int .i64 p, .int .i64 q, .int .i64 r, .int .i64 s, .int .i64 t], .bool true]) (by simp [results, Try.results181, go_sem, *]) rfl ⟨by rw [hfin.out], by (repeat (first | with_reducible exact Below.refl _ _ | with_reducible assumption | with_reducible refine Below.setCell ?_ (by first | omega | (simp; done) | (simp; omega)) _ | with_reducible refine Below.alloc ?_ (by first | omega | (simp; done) | (simp; omega)) _ | with_reducible refine Below.drew ?_ | with_reducible refine belowDrewN ?_ _ | with_reducible refine Below.trans ?_ (Below.mono (by assumption) (by first | omega | (simp; done) | (simp; omega)))))⟩


end Go.Proofs.Yteckhaafdojoeaa

/-! M5: The reference's row by column is the program's: zeros add nothing. No walk. -/
namespace Go.Proofs.Yteckhaafdojoeaa

theorem divZ_zero : divZ ⟨0, 0, 0, 0⟩ = (⟨0, 0, 0, 0⟩, true) := rfl
theorem newL_zero (k : Nat) : newL k ⟨0, 0, 0, 0⟩ = (⟨0, 0, 0, 0⟩, 0) := by
  induction k with
  | zero => rfl
  | succ k ih => rw [newL, divZ_zero]; exact ih
theorem newL_ok {k : Nat} {n : Z4} (h : n.ok = true) : (newL k n).1.ok = true ∧ ((newL k n).2 = 0 ∨ (divZ (newL k n).1).2 = false) := by
  induction k generalizing n with
  | zero => exact ⟨h, .inl rfl⟩
  | succ k ih =>
    rw [newL]
    by_cases hd : (divZ n).2 = true
    · rw [if_pos hd]; exact ih (divZ_ok hd)
    · rw [if_neg hd]; exact ⟨h, .inr (by simpa using hd)⟩
theorem newD_ok {n : Z4} {k : Int} (h : (newD n k).2 = true) : (newD n k).1.ok = true := by
  unfold newD at *
  split at h
  · rename_i hc
    rw [if_pos hc]
    rw [Bool.and_eq_true] at hc
    split at h
    · simp at h
    · rename_i h6
      rw [if_neg h6]
      obtain ⟨h1, h2⟩ := newL_ok (k := k.toNat) hc.1
      rw [DO.ok_iff]
      dsimp only
      refine ⟨h1, by omega, ?_⟩
      rcases h2 with h2 | h2
      · left; omega
      · exact .inr h2
  · simp at h
theorem newD_fix {x : DO} (h : x.ok = true) : newD x.n x.e = (x, true) := by
  obtain ⟨h1, ⟨h2, h3⟩, h4⟩ := (DO.ok_iff _).1 h
  have hl : newL x.e.toNat x.n = (x.n, x.e.toNat) := by
    rcases h4 with h4 | h4
    · rw [h4]; rfl
    · cases hk : x.e.toNat with
      | zero => rfl
      | succ k => rw [newL, if_neg (by rw [h4]; exact Bool.false_ne_true)]
  exact newD_small h1 ((inR_iff _ _ _).2 (by omega)) hl h2 (by omega)
theorem addD_ok {x y : DO} (h : (addD x y).2 = true) : (addD x y).1.ok = true := by
  unfold addD at *
  split at h
  · rename_i hc
    rw [if_pos hc]
    have key : ∀ a b : DO, (addG a b).2 = true → (addG a b).1.ok = true := fun a b hg => by
      unfold addG at *
      split at hg
      · rename_i h1
        rw [if_pos h1]
        split at hg
        · rename_i h2; rw [if_pos h2]; exact newD_ok hg
        · simp at hg
      · simp at hg
    split at h
    · rename_i h1; rw [if_pos h1]; exact key _ _ h
    · rename_i h1; rw [if_neg h1]; exact key _ _ h
  · simp at h
theorem mulD_ok {x y : DO} (h : (mulD x y).2 = true) : (mulD x y).1.ok = true := by
  unfold mulD at *
  split at h
  · rename_i hc
    rw [if_pos hc]
    split at h
    · rename_i h1; rw [if_pos h1]; exact newD_ok h
    · simp at h
  · simp at h
theorem zero_ok : DO.ok ⟨⟨0, 0, 0, 0⟩, 0⟩ = true := rfl
theorem mulZ_zero_left {y : Z4} (h : y.ok = true) : mulZ ⟨0, 0, 0, 0⟩ y = (⟨0, 0, 0, 0⟩, true) := by
  rw [mulZ, if_pos (by rw [h]; rfl)]
  simp [mulRaw, chkZ]
  rfl
theorem mulZ_zero_right {y : Z4} (h : y.ok = true) : mulZ y ⟨0, 0, 0, 0⟩ = (⟨0, 0, 0, 0⟩, true) := by
  rw [mulZ, if_pos (by rw [h]; rfl)]
  simp [mulRaw, chkZ]
  rfl
theorem newD_zero {k : Int} (h0 : 0 ≤ k) (h1 : k ≤ 120) : newD ⟨0, 0, 0, 0⟩ k = (⟨⟨0, 0, 0, 0⟩, 0⟩, true) := by
  rw [newD, if_pos (by rw [(inR_iff _ _ _).2 ⟨h0, h1⟩]; rfl), newL_zero]
  rfl
theorem mulD_zero_left {y : DO} (h : y.ok = true) : mulD ⟨⟨0, 0, 0, 0⟩, 0⟩ y = (⟨⟨0, 0, 0, 0⟩, 0⟩, true) := by
  obtain ⟨h1, ⟨h2, h3⟩, _⟩ := (DO.ok_iff _).1 h
  rw [mulD, if_pos (by rw [h]; rfl), mulZ_zero_left h1, if_pos rfl]
  exact newD_zero (by dsimp only; omega) (by dsimp only; omega)
theorem mulD_zero_right {y : DO} (h : y.ok = true) : mulD y ⟨⟨0, 0, 0, 0⟩, 0⟩ = (⟨⟨0, 0, 0, 0⟩, 0⟩, true) := by
  obtain ⟨h1, ⟨h2, h3⟩, _⟩ := (DO.ok_iff _).1 h
  rw [mulD, if_pos (by rw [h]; rfl), mulZ_zero_right h1, if_pos rfl]
  exact newD_zero (by dsimp only; omega) (by dsimp only; omega)
theorem up_zeroZ (k : Nat) : up k ⟨0, 0, 0, 0⟩ = (⟨0, 0, 0, 0⟩, true) := by
  induction k with
  | zero => rfl
  | succ k ih => rw [up, mulZ_zero_left rfl, if_pos rfl]; exact ih
theorem addD_zero {x : DO} (h : x.ok = true) : addD x ⟨⟨0, 0, 0, 0⟩, 0⟩ = (x, true) := by
  obtain ⟨h1, ⟨h2, h3⟩, _⟩ := (DO.ok_iff _).1 h
  have ha : addZ x.n ⟨0, 0, 0, 0⟩ = (x.n, true) := by
    rw [addZ, if_pos (by rw [h1]; rfl)]
    simp only [Int.add_zero]
    rw [chkZ, if_pos h1]
  rw [addD, if_pos (by rw [h]; rfl), if_neg (by dsimp only; omega), addG, up_zeroZ, if_pos rfl, ha, if_pos rfl]
  exact newD_fix h
theorem rowF_eq : ∀ (l : List (DO × DO)) (s : DO), s.ok = true → (∀ p ∈ l, p.1.ok = true ∧ p.2.ok = true) → rowF s l = dotF s l
  | [], _, _, _ => rfl
  | p :: l, s, hs, hl => by
    obtain ⟨h1, h2⟩ := hl p (List.mem_cons_self ..)
    have ih := fun s hs => rowF_eq l s hs (fun q hq => hl q (List.mem_cons_of_mem _ hq))
    rw [rowF, dotF]
    by_cases hz : p.1 = ⟨⟨0, 0, 0, 0⟩, 0⟩ ∨ p.2 = ⟨⟨0, 0, 0, 0⟩, 0⟩
    · have hm : mulD p.1 p.2 = (⟨⟨0, 0, 0, 0⟩, 0⟩, true) := by
        rcases hz with hz | hz
        · rw [hz]; exact mulD_zero_left h2
        · rw [hz]; exact mulD_zero_right h1
      rw [if_pos hz, hm, addD_zero hs]
      show rowF s l = dotF s l
      exact ih s hs
    · rw [if_neg hz]
      by_cases hc : ((mulD p.1 p.2).2 && (addD s (mulD p.1 p.2).1).2) = true
      · rw [if_pos hc, if_pos hc]
        rw [Bool.and_eq_true] at hc
        exact ih _ (addD_ok hc.2)
      · rw [if_neg hc, if_neg hc]
theorem okS_mem {l : List DO} (h : okS l = true) {x : DO} (hx : x ∈ l) : x.ok = true := by
  rw [okS, Bool.and_eq_true, List.all_eq_true] at h
  exact h.2 x hx
theorem row_eq {u v : List DO} (hu : okS u = true) (hv : okS v = true) : row u v = dot u v := by
  refine rowF_eq _ _ zero_ok fun p hp => ?_
  have := List.of_mem_zip (a := p.1) (b := p.2) hp
  exact ⟨okS_mem hu this.1, okS_mem hv this.2⟩

end Go.Proofs.Yteckhaafdojoeaa

/-! S16: The product of a matrix and a state (spec). -/
namespace Go.Proofs.Yteckhaafdojoeaa
open Go.RowKit

theorem OwnS.empty' {w : World} {base g : Nat} (hg : g = w.heap.size) (hb : base ≤ w.heap.size) : OwnS (w.alloc (.cells #[] TD)) base (.slice (some ⟨g, 0, none⟩) 0 0) [] := hg ▸ OwnS.empty hb
theorem OwnM.empty' {w : World} {base g : Nat} (hg : g = w.heap.size) (hb : base ≤ w.heap.size) : OwnM (w.alloc (.cells #[] TS)) base (.slice (some ⟨g, 0, none⟩) 0 0) [] := hg ▸ OwnM.empty hb

theorem sRowV (ao bo : Option Addr) (u v : List DO) (cu cv : Nat) (hn : u.length ≤ 1000000000) (hn' : v.length ≤ 1000000000) (huv : u.length ≤ v.length) (hku : okS u = true) (hkv : okS v = true) (w : World) (hu : StR w ao u) (hv : StR w bo v) :
    Calls Try.prog 181 #[.slice ao u.length cu, .slice bo v.length cv] w fun e w' => e = .returned (.tuple #[Dv (dot u v).1, .bool (dot u v).2]) ∧ Below w.heap.size w w' := by
  have h := sRow ao bo u v cu cv hn hn' huv w hu hv
  rw [row_eq hku hkv] at h
  exact h

set_option maxHeartbeats 4000000 in
theorem sApplyMatrix (ao bo : Option Addr) (m : List (List DO)) (v : List DO) (cm cv : Nat) (hz : SzM m) (hv : v.length ≤ 2000000) (w : World) (h : MtR w ao m) (h' : StR w bo v) :
    Calls Try.prog 143 #[.slice ao m.length cm, .slice bo v.length cv] w fun e w' => ∃ x, e = .returned (.tuple #[x, .bool (applyM m v).2]) ∧ OwnS w' w.heap.size x (applyM m v).1 ∧ Below w.heap.size w w' := by
  obtain ⟨iD, hiD, hzD0, hzD1, hzD2⟩ := info_parts infoD
  by_cases hm : okM m = true
  · by_cases hs : okS v = true
    · by_cases hl : m.length = v.length
      · have hl' : ((m.length : Int) != (v.length : Int)) = false := by simp [hl]
        have hrl := fun r hr => (okM_rows (r := r) hm hr).1
        have hml := okM_len hm
        have HL := Lib.hid hl
        have HR := Lib.hid hrl
        clear hl hrl
        go_enter Try.func143, Try.ntmps143
        go_wp2_with fail
        refine (sIsValidMatrix _ _ _ hz _ h).mono ?_
        rintro e w1 ⟨rfl, hb1⟩
        have hs1 := hb1.size
        go_wp2_with fail
        refine (sIsValidState _ _ _ (by omega) _ (h'.below hb1)).mono ?_
        rintro e w2 ⟨rfl, hb2⟩
        have hs2 := hb2.size
        have hb3 : Below w.heap.size w w2 := hb1.trans (hb2.mono hb1.size)
        have hs3 := hb3.size
        clear hb1 hb2 hs1 hs2
        go_wp2
        go_loopw [6, 7] (fun r x wr => ∃ j : Nat, x = .int .i64 j ∧ j ≤ m.length ∧ Hid (∀ i (hi : i < m.length), i < j → (fun r => (dot r v).2) m[i] = true) ∧ OwnS wr w.heap.size r ((m.map fun r => (dot r v).1).take j) ∧ Below w.heap.size w wr) (fun _ x _ => m.length - (intOf x).toNat)
        case atStart => exact ⟨0, rfl, Nat.zero_le _, fun _ _ h => absurd h (Nat.not_lt_zero _), OwnS.empty hs3, by (repeat (first | with_reducible exact Below.refl _ _ | with_reducible assumption | with_reducible refine Below.setCell ?_ (by first | omega | (simp; done) | (simp; omega)) _ | with_reducible refine Below.alloc ?_ (by first | omega | (simp; done) | (simp; omega)) _ | with_reducible refine Below.drew ?_ | with_reducible refine belowDrewN ?_ _ | with_reducible refine Below.trans ?_ (Below.mono (by assumption) (by first | omega | (simp; done) | (simp; omega)))))⟩
        case round =>
          obtain ⟨j, rfl, h0, hinv, hS, hb0⟩ := hrel
          have hs0 := hb0.size
          by_cases hj : j < m.length
          · obtain ⟨b, o, rfl, hlt, ro, rc, hcell, hR⟩ := (h.below hb0) j hj
            have hlj : m[j].length ≤ v.length := by have h1 := HR.out m[j] (List.getElem_mem _); have h2 := HL.out; omega
            have hz3 : m[j].length ≤ 1000000000 := by omega
            have hlen : ((m.map fun r => (dot r v).1).take j).length = j := by rw [List.length_take, List.length_map]; omega
            by_cases hd : (dot m[j] v).2 = true
            · go_wp2_with fail
              refine (sRowV _ _ _ _ _ _ hz3 (by omega) hlj (okM_rows hm (List.getElem_mem _)).2 hs _ hR (h'.below hb0)).mono ?_
              rintro e w4 ⟨rfl, hb4⟩
              have hS4 := hS.below hb4 (Nat.le_refl _)
              have hb5 : Below w.heap.size w w4 := hb0.trans (hb4.mono hs0)
              have hs5 := hb5.size
              clear hS hcell h h'
              go_wp2_with (first | (at_builtin; refine wpList_append_own _ rfl _ _ 56 rfl w.heap.size TD iD _ 5 40 Try.underlying56 hiD hzD0 hzD1 hzD2 rfl (by decide) _ _ _ rfl (World.ownsRow.alloc (World.ownsRow.alloc hS4 _) _) ⟨w4.heap.size + 1, 0, none⟩ 1 1 (dcells (dot m[j] v).1) rfl rfl ?c1 ?c2 ?c3 ?c4 ?c5 ?_))
              case c1 => exact at_new' _ (dcells (dot m[j] v).1) _ (by simp)
              case c2 => exact dcells_one _
              case c3 => rw [hlen]; unfold maxLen; omega
              case c4 => rw [hlen]; omega
              case c5 => simp; omega
              intro v' w' hown' hgrow _
              have hS' : OwnS w' w.heap.size v' ((m.map fun r => (dot r v).1).take (j + 1)) := by
                rw [map_take_snoc _ _ _ hj]
                exact OwnS.snoc (by rw [hlen]; exact hown')
              have hb' : Below w.heap.size w w' := ((hb5.alloc hs5 _).alloc (by simp; omega) _).grown hgrow (by simp; omega) fun k hk => (World.ownsRow.lt hS4 k hk).1
              clear hown' hgrow hS4
              go_wp2
              go_roundw
              case rel => exact ⟨j + 1, by go_num, by omega, all_step' (f := fun r => (dot r v).2) hinv.out hd, hS', hb'⟩
              case measure => simp [intOf]; omega
            · have hfin := Lib.hid (applyM_fail hm hs HL.out (all_not hj hd))
              go_wp2_with fail
              refine (sRowV _ _ _ _ _ _ hz3 (by omega) hlj (okM_rows hm (List.getElem_mem _)).2 hs _ hR (h'.below hb0)).mono ?_
              rintro e w4 ⟨rfl, hb4⟩
              have hs4 := hb4.size
              go_wp2
              go_ret2
              exact ⟨.slice (some ⟨_, 0, none⟩) 0 0, by rw [hfin.out]; rfl, by rw [hfin.out]; exact OwnS.empty' (by simp) (by first | omega | (simp; done) | (simp; omega)), by (repeat (first | with_reducible exact Below.refl _ _ | with_reducible assumption | with_reducible refine Below.setCell ?_ (by first | omega | (simp; done) | (simp; omega)) _ | with_reducible refine Below.alloc ?_ (by first | omega | (simp; done) | (simp; omega)) _ | with_reducible refine Below.drew ?_ | with_reducible refine belowDrewN ?_ _ | with_reducible refine Below.trans ?_ (Below.mono (by assumption) (by first | omega | (simp; done) | (simp; omega)))))⟩
          · have hfin := Lib.hid (applyM_yes hm hs HL.out (all_of (fun i hi => hinv.out i hi (by omega))))
            have hjm : j = m.length := by omega
            subst hjm
            have htk : (m.map fun r => (dot r v).1).take m.length = m.map fun r => (dot r v).1 := List.take_of_length_le (by simp)
            rw [htk] at hS
            go_wp2
            go_ret2
            have hS2 := hS
            rw [show (m.map fun r => (dot r v).1) = (applyM m v).1 by rw [hfin.out]] at hS2
            exact ⟨_, by rw [hfin.out]; rfl, hS2, by (repeat (first | with_reducible exact Below.refl _ _ | with_reducible assumption | with_reducible refine Below.setCell ?_ (by first | omega | (simp; done) | (simp; omega)) _ | with_reducible refine Below.alloc ?_ (by first | omega | (simp; done) | (simp; omega)) _ | with_reducible refine Below.drew ?_ | with_reducible refine belowDrewN ?_ _ | with_reducible refine Below.trans ?_ (Below.mono (by assumption) (by first | omega | (simp; done) | (simp; omega)))))⟩
      · have hl' : ((m.length : Int) != (v.length : Int)) = true := by simp; omega
        have hfin := Lib.hid (applyM_no (m := m) (v := v) (by simp [hl]))
        clear hl
        go_enter Try.func143, Try.ntmps143
        go_wp2_with fail
        refine (sIsValidMatrix _ _ _ hz _ h).mono ?_
        rintro e w1 ⟨rfl, hb1⟩
        have hs1 := hb1.size
        go_wp2_with fail
        refine (sIsValidState _ _ _ (by omega) _ (h'.below hb1)).mono ?_
        rintro e w2 ⟨rfl, hb2⟩
        have hs2 := hb2.size
        have hs1 := hb1.size
        go_wp2
        go_ret2
        exact ⟨.slice (some ⟨_, 0, none⟩) 0 0, by rw [hfin.out]; rfl, by rw [hfin.out]; exact OwnS.empty' (by simp) (by first | omega | (simp; done) | (simp; omega)), by (repeat (first | with_reducible exact Below.refl _ _ | with_reducible assumption | with_reducible refine Below.setCell ?_ (by first | omega | (simp; done) | (simp; omega)) _ | with_reducible refine Below.alloc ?_ (by first | omega | (simp; done) | (simp; omega)) _ | with_reducible refine Below.drew ?_ | with_reducible refine belowDrewN ?_ _ | with_reducible refine Below.trans ?_ (Below.mono (by assumption) (by first | omega | (simp; done) | (simp; omega)))))⟩
    · have hfin := Lib.hid (applyM_no (m := m) (v := v) (by simp [hs]))
      go_enter Try.func143, Try.ntmps143
      go_wp2_with fail
      refine (sIsValidMatrix _ _ _ hz _ h).mono ?_
      rintro e w1 ⟨rfl, hb1⟩
      have hs1 := hb1.size
      go_wp2_with fail
      refine (sIsValidState _ _ _ (by omega) _ (h'.below hb1)).mono ?_
      rintro e w2 ⟨rfl, hb2⟩
      have hs2 := hb2.size
      have hs1 := hb1.size
      go_wp2
      go_ret2
      exact ⟨.slice (some ⟨_, 0, none⟩) 0 0, by rw [hfin.out]; rfl, by rw [hfin.out]; exact OwnS.empty' (by simp) (by first | omega | (simp; done) | (simp; omega)), by (repeat (first | with_reducible exact Below.refl _ _ | with_reducible assumption | with_reducible refine Below.setCell ?_ (by first | omega | (simp; done) | (simp; omega)) _ | with_reducible refine Below.alloc ?_ (by first | omega | (simp; done) | (simp; omega)) _ | with_reducible refine Below.drew ?_ | with_reducible refine belowDrewN ?_ _ | with_reducible refine Below.trans ?_ (Below.mono (by assumption) (by first | omega | (simp; done) | (simp; omega)))))⟩
  · have hfin := Lib.hid (applyM_no (m := m) (v := v) (by simp [hm]))
    go_enter Try.func143, Try.ntmps143
    go_wp2_with fail
    refine (sIsValidMatrix _ _ _ hz _ h).mono ?_
    rintro e w1 ⟨rfl, hb1⟩
    have hs1 := hb1.size
    go_wp2
    go_ret2
    exact ⟨.slice (some ⟨_, 0, none⟩) 0 0, by rw [hfin.out]; rfl, by rw [hfin.out]; exact OwnS.empty' (by simp) (by first | omega | (simp; done) | (simp; omega)), by (repeat (first | with_reducible exact Below.refl _ _ | with_reducible assumption | with_reducible refine Below.setCell ?_ (by first | omega | (simp; done) | (simp; omega)) _ | with_reducible refine Below.alloc ?_ (by first | omega | (simp; done) | (simp; omega)) _ | with_reducible refine Below.drew ?_ | with_reducible refine belowDrewN ?_ _ | with_reducible refine Below.trans ?_ (Below.mono (by assumption) (by first | omega | (simp; done) | (simp; omega)))))⟩

end Go.Proofs.Yteckhaafdojoeaa

/-! S17: Columns and the matrix with given columns (spec). -/
namespace Go.Proofs.Yteckhaafdojoeaa
open Go.RowKit

set_option maxHeartbeats 4000000 in
theorem sColumn (ao : Option Addr) (m : List (List DO)) (k cap : Nat) (hn : m.length ≤ 2000000) (hr : ∀ r ∈ m, k < r.length ∧ r.length ≤ 2000000) (_hk1 : k ≤ 2000000) (w : World) (h : MtR w ao m) :
    Calls Try.prog 144 #[.slice ao m.length cap, .int .i64 k] w fun e w' => ∃ v, e = .returned v ∧ OwnS w' w.heap.size v (colAt m k) ∧ Below w.heap.size w w' := by
  obtain ⟨iD, hiD, hzD0, hzD1, hzD2⟩ := info_parts infoD
  go_enter Try.func144, Try.ntmps144
  go_wp2
  go_loopw [5, 6] (fun r y wi => ∃ j : Nat, y = .int .i64 j ∧ j ≤ m.length ∧ OwnS wi w.heap.size r ((colAt m k).take j) ∧ Below w.heap.size w wi) (fun _ y _ => m.length - (intOf y).toNat)
  case atStart => exact ⟨0, rfl, Nat.zero_le _, OwnS.empty (Nat.le_refl _), by (repeat (first | with_reducible exact Below.refl _ _ | with_reducible assumption | with_reducible refine Below.setCell ?_ (by first | omega | (simp; done) | (simp; omega)) _ | with_reducible refine Below.alloc ?_ (by first | omega | (simp; done) | (simp; omega)) _ | with_reducible refine Below.drew ?_ | with_reducible refine belowDrewN ?_ _ | with_reducible refine Below.trans ?_ (Below.mono (by assumption) (by first | omega | (simp; done) | (simp; omega)))))⟩
  case round =>
    obtain ⟨j, rfl, j0, hS, hb1⟩ := hrel
    have hs1 := hb1.size
    have hlen : ((colAt m k).take j).length = j := by rw [List.length_take, colAt_length]; omega
    by_cases hj : j < m.length
    · obtain ⟨b, o, rfl, hlt, ro, rc, hcell, hR⟩ := (h.below hb1) j hj
      have hkj : k < m[j].length := (hr m[j] (List.getElem_mem _)).1
      obtain ⟨b', o', rfl, hlt', hD⟩ := hR k hkj
      obtain ⟨d0, d1, d2, d3, d4⟩ := hD
      clear h
      go_wp2_with (first | (at_builtin; refine wpList_append_own _ rfl _ _ 56 rfl w.heap.size TD iD _ 5 40 Try.underlying56 hiD hzD0 hzD1 hzD2 rfl (by decide) _ _ _ rfl (World.ownsRow.alloc hS _) ⟨wr.heap.size, 0, none⟩ 1 1 (dcells m[j][k]) rfl rfl ?c1 ?c2 ?c3 ?c4 ?c5 ?_))
      case c1 => exact at_new _ (dcells m[j][k]) _
      case c2 => exact dcells_one _
      case c3 => rw [hlen]; unfold maxLen; omega
      case c4 => rw [hlen]; omega
      case c5 => simp; omega
      intro v' w' hown' hgrow _
      have hS' : OwnS w' w.heap.size v' ((colAt m k).take (j + 1)) := by
        rw [colAt_take m k j hj hkj]
        exact OwnS.snoc (by rw [hlen]; exact hown')
      have hb' := grownS hb1 hs1 hS hgrow
      clear hown' hgrow hS
      go_wp2
      go_roundw
      case rel => exact ⟨j + 1, by go_num, by omega, hS', hb'⟩
      case measure => simp [intOf]; omega
    · have hj' : j = m.length := by omega
      subst hj'
      have hcol : (colAt m k).take m.length = colAt m k := List.take_of_length_le (by rw [colAt_length]; exact Nat.le_refl _)
      rw [hcol] at hS
      go_wp2
      go_ret
      exact ⟨_, rfl, hS, by (repeat (first | with_reducible exact Below.refl _ _ | with_reducible assumption | with_reducible refine Below.setCell ?_ (by first | omega | (simp; done) | (simp; omega)) _ | with_reducible refine Below.alloc ?_ (by first | omega | (simp; done) | (simp; omega)) _ | with_reducible refine Below.drew ?_ | with_reducible refine belowDrewN ?_ _ | with_reducible refine Below.trans ?_ (Below.mono (by assumption) (by first | omega | (simp; done) | (simp; omega)))))⟩

set_option maxHeartbeats 4000000 in
theorem sColumns (ao : Option Addr) (m : List (List DO)) (cap : Nat) (hn : m.length ≤ 2000000) (hr : ∀ r ∈ m, m.length ≤ r.length ∧ r.length ≤ 2000000) (w : World) (h : MtR w ao m) :
    Calls Try.prog 101 #[.slice ao m.length cap] w fun e w' => ∃ v, e = .returned v ∧ OwnM w' w.heap.size v (flip m) ∧ Below w.heap.size w w' := by
  obtain ⟨iS, hiS, hzS0, hzS1, hzS2⟩ := info_parts infoS
  go_enter Try.func101, Try.ntmps101
  go_wp2
  go_loopw [3, 4] (fun v x wr => ∃ k : Nat, x = .int .i64 k ∧ k ≤ m.length ∧ OwnM wr w.heap.size v ((flip m).take k) ∧ Below w.heap.size w wr) (fun _ x _ => m.length - (intOf x).toNat)
  case atStart => exact ⟨0, rfl, Nat.zero_le _, OwnM.empty (Nat.le_refl _), by (repeat (first | with_reducible exact Below.refl _ _ | with_reducible assumption | with_reducible refine Below.setCell ?_ (by first | omega | (simp; done) | (simp; omega)) _ | with_reducible refine Below.alloc ?_ (by first | omega | (simp; done) | (simp; omega)) _ | with_reducible refine Below.drew ?_ | with_reducible refine belowDrewN ?_ _ | with_reducible refine Below.trans ?_ (Below.mono (by assumption) (by first | omega | (simp; done) | (simp; omega)))))⟩
  case round =>
    obtain ⟨k, rfl, h0, hM, hb0⟩ := hrel
    have hs0 := hb0.size
    by_cases hk : k < m.length
    · have hlen2 : ((flip m).take k).length = k := by rw [List.length_take, flip_length]; omega
      go_wp2_with fail
      refine (sColumn _ m k _ hn (fun r hm => by have := hr r hm; omega) (by omega) _ (h.below hb0)).mono ?_
      rintro e w7 ⟨x, rfl, hx, hb7⟩
      obtain ⟨vs, ho, hrows, hdist⟩ := hM
      have hb8 : Below w.heap.size w w7 := hb0.trans (hb7.mono hs0)
      have hs8 := hb8.size
      obtain ⟨xo, xc, rfl, _, _, _⟩ := hx.read
      have ho1 := ownsRow_below ho hb7 (Nat.le_refl _)
      clear h
      go_wp2_with (first | (at_builtin; refine wpList_append_own _ rfl _ _ 26 rfl w.heap.size TS iS _ 1 24 Try.underlying26 hiS hzS0 hzS1 hzS2 rfl (by decide) _ _ _ rfl (World.ownsRow.alloc ho1 _) ⟨w7.heap.size, 0, none⟩ 1 1 [.slice xo (colAt m k).length xc] rfl rfl ?c1 ?c2 ?c3 ?c4 ?c5 ?_))
      case c1 => exact at_new _ [Value.slice xo (colAt m k).length xc] _
      case c2 => exact slice_one _ _ _
      case c3 => rw [hlen2]; unfold maxLen; omega
      case c4 => rw [hlen2]; omega
      case c5 => simp; omega
      intro v' w' hown' hgrow _
      have hM' : OwnM w' w.heap.size v' ((flip m).take (k + 1)) := by
        rw [flip_take m k hk]
        exact OwnM.snoc hs0 ho hrows hdist hb7 hx (by rw [hlen2]; exact hown') hgrow
      have hb' : Below w.heap.size w w' := (hb8.alloc hs8 _).grown hgrow (by simp; omega) fun x hx => (World.ownsRow.lt ho1 x hx).1
      clear hown' hgrow ho ho1 hrows hdist
      go_wp2
      go_roundw
      case rel => exact ⟨k + 1, by go_num, by omega, hM', hb'⟩
      case measure => simp [intOf]; omega
    · have hkl : k = m.length := by omega
      subst hkl
      have hf : (flip m).take m.length = flip m := List.take_of_length_le (by rw [flip_length]; exact Nat.le_refl _)
      rw [hf] at hM
      go_wp2
      go_ret
      exact ⟨_, rfl, hM, by (repeat (first | with_reducible exact Below.refl _ _ | with_reducible assumption | with_reducible refine Below.setCell ?_ (by first | omega | (simp; done) | (simp; omega)) _ | with_reducible refine Below.alloc ?_ (by first | omega | (simp; done) | (simp; omega)) _ | with_reducible refine Below.drew ?_ | with_reducible refine belowDrewN ?_ _ | with_reducible refine Below.trans ?_ (Below.mono (by assumption) (by first | omega | (simp; done) | (simp; omega)))))⟩

end Go.Proofs.Yteckhaafdojoeaa

/-! S18: The product of two matrices (spec). -/
namespace Go.Proofs.Yteckhaafdojoeaa
open Go.RowKit

set_option maxRecDepth 100000 in
set_option maxHeartbeats 4000000 in
theorem sMulMatrix (ao bo : Option Addr) (a b : List (List DO)) (ca cb : Nat) (hza : SzM a) (hzb : SzM b) (w : World) (h : MtR w ao a) (h' : MtR w bo b) :
    Calls Try.prog 73 #[.slice ao a.length ca, .slice bo b.length cb] w fun e w' => ∃ x, e = .returned (.tuple #[x, .bool (mulM a b).2]) ∧ OwnM w' w.heap.size x (mulM a b).1 ∧ Below w.heap.size w w' := by
  obtain ⟨iS, hiS, hzS0, hzS1, hzS2⟩ := info_parts infoS
  by_cases hA : okM a = true
  · by_cases hB : okM b = true
    · by_cases hl : a.length = b.length
      · have hl' : ((a.length : Int) != (b.length : Int)) = false := by simp [hl]
        have hbl := okM_len hB
        have hal := okM_len hA
        have HL := Lib.hid hl
        clear hl
        go_enter Try.func73, Try.ntmps73
        go_wp2_with fail
        refine (sIsValidMatrix _ _ _ hza _ h).mono ?_
        rintro e w1 ⟨rfl, hb1⟩
        have hs1 := hb1.size
        go_wp2_with fail
        refine (sIsValidMatrix _ _ _ hzb _ (h'.below hb1)).mono ?_
        rintro e w2 ⟨rfl, hb2⟩
        have hs2 := hb2.size
        have hb5 : Below w.heap.size w w2 := hb1.trans (hb2.mono hb1.size)
        have hs5 := hb5.size
        clear hb1 hb2 hs1 hs2
        have hrb : ∀ k, k < b.length → ∀ r ∈ b, k < r.length ∧ r.length ≤ 2000000 := fun k hk r hr => by have := (okM_rows hB hr).1; omega
        go_wp2
        go_loopw [6, 7] (fun r x wr => ∃ k : Nat, x = .int .i64 k ∧ k ≤ b.length ∧ Hid (∀ i (hi : i < (flip b).length), i < k → (fun c => (applyM a c).2) (flip b)[i] = true) ∧ OwnM wr w.heap.size r (((flip b).map fun c => (applyM a c).1).take k) ∧ Below w.heap.size w wr) (fun _ x _ => b.length - (intOf x).toNat)
        case atStart => exact ⟨0, rfl, Nat.zero_le _, fun _ _ h => absurd h (Nat.not_lt_zero _), OwnM.empty hs5, by (repeat (first | with_reducible exact Below.refl _ _ | with_reducible assumption | with_reducible refine Below.setCell ?_ (by first | omega | (simp; done) | (simp; omega)) _ | with_reducible refine Below.alloc ?_ (by first | omega | (simp; done) | (simp; omega)) _ | with_reducible refine Below.drew ?_ | with_reducible refine belowDrewN ?_ _ | with_reducible refine Below.trans ?_ (Below.mono (by assumption) (by first | omega | (simp; done) | (simp; omega)))))⟩
        case round =>
          obtain ⟨k, rfl, h0, hinv, hM, hb6⟩ := hrel
          have hs6 := hb6.size
          by_cases hk : k < b.length
          · have hlen : (((flip b).map fun c => (applyM a c).1).take k).length = k := by rw [List.length_take, List.length_map, flip_length]; omega
            have hk' : k < (flip b).length := by rw [flip_length]; exact hk
            have hget : (flip b)[k] = colAt b k := flip_get hk'
            have hsnoc := map_take_snoc (flip b) (fun c => (applyM a c).1) k hk'
            have hstep := fun (hd : (applyM a (colAt b k)).2 = true) => all_step' (f := fun c => (applyM a c).2) hinv.out (hj := hk') (by rw [hget]; exact hd)
            have hnot := fun (hd : ¬ (applyM a (colAt b k)).2 = true) => all_not (f := fun c => (applyM a c).2) hk' (by rw [hget]; exact hd)
            rw [hget] at hsnoc
            have HS := Lib.hid hsnoc
            have HT := Lib.hid hstep
            have HN := Lib.hid hnot
            clear hget hsnoc hstep hnot hk'
            go_wp2_with fail
            refine (sColumn _ b k _ (by omega) (hrb k hk) (by omega) _ (h'.below hb6)).mono ?_
            rintro e w3 ⟨c, rfl, hc, hb3⟩
            have hcl : (colAt b k).length ≤ 2000000 := by rw [colAt_length]; omega
            have hs3 := hb3.size
            obtain ⟨co, cc, rfl, hcR, _, _⟩ := hc.read
            by_cases hd : (applyM a (colAt b k)).2 = true
            · go_wp2_with fail
              refine (sApplyMatrix _ _ a (colAt b k) _ _ hza hcl _ ((h.below hb6).below hb3) hcR).mono ?_
              rintro e w7 ⟨x, rfl, hx, hb7⟩
              obtain ⟨vs, ho, hrows, hdist⟩ := hM
              have hb37 : Below wr.heap.size wr w7 := hb3.trans (hb7.mono hs3)
              have hb8 : Below w.heap.size w w7 := hb6.trans (hb37.mono hs6)
              have hs8 := hb8.size
              have hs7 := hb7.size
              have hx7 := hx.mono hs3
              obtain ⟨xo, xc, rfl, _, _, _⟩ := hx.read
              have ho1 := ownsRow_below ho hb37 (Nat.le_refl _)
              clear h h' hcR hc
              go_wp2_with (first | (at_builtin; refine wpList_append_own _ rfl _ _ 26 rfl w.heap.size TS iS _ 1 24 Try.underlying26 hiS hzS0 hzS1 hzS2 rfl (by decide) _ _ _ rfl (World.ownsRow.alloc ho1 _) ⟨w7.heap.size, 0, none⟩ 1 1 [.slice xo (applyM a (colAt b k)).1.length xc] rfl rfl ?c1 ?c2 ?c3 ?c4 ?c5 ?_))
              case c1 => exact at_new _ [Value.slice xo (applyM a (colAt b k)).1.length xc] _
              case c2 => exact slice_one _ _ _
              case c3 => rw [hlen]; unfold maxLen; omega
              case c4 => rw [hlen]; omega
              case c5 => simp; omega
              intro v' w' hown' hgrow _
              have hM' : OwnM w' w.heap.size v' (((flip b).map fun c => (applyM a c).1).take (k + 1)) := by
                rw [HS.out]
                exact OwnM.snoc hs6 ho hrows hdist hb37 hx7 (by rw [hlen]; exact hown') hgrow
              have hbb : Below w.heap.size w w' := (hb8.alloc hs8 _).grown hgrow (by simp; omega) fun g hg => (World.ownsRow.lt ho1 g hg).1
              clear hown' hgrow ho ho1 hrows hdist
              go_wp2
              go_roundw
              case rel => exact ⟨k + 1, by go_num, by omega, HT.out hd, hM', hbb⟩
              case measure => simp [intOf]; omega
            · have hfin := Lib.hid (mulM_fail hA hB HL.out (HN.out hd))
              go_wp2_with fail
              refine (sApplyMatrix _ _ a (colAt b k) _ _ hza hcl _ ((h.below hb6).below hb3) hcR).mono ?_
              rintro e w7 ⟨x, rfl, hx, hb7⟩
              have hs7 := hb7.size
              go_wp2
              go_ret2
              exact ⟨.slice (some ⟨_, 0, none⟩) 0 0, by rw [hfin.out]; rfl, by rw [hfin.out]; exact OwnM.empty' (by simp) (by first | omega | (simp; done) | (simp; omega)), by (repeat (first | with_reducible exact Below.refl _ _ | with_reducible assumption | with_reducible refine Below.setCell ?_ (by first | omega | (simp; done) | (simp; omega)) _ | with_reducible refine Below.alloc ?_ (by first | omega | (simp; done) | (simp; omega)) _ | with_reducible refine Below.drew ?_ | with_reducible refine belowDrewN ?_ _ | with_reducible refine Below.trans ?_ (Below.mono (by assumption) (by first | omega | (simp; done) | (simp; omega)))))⟩
          · have hkb : k = b.length := by omega
            subst hkb
            have hfin := Lib.hid (mulM_yes hA hB HL.out (all_of (fun i hi => hinv.out i hi (by rw [flip_length] at hi; omega))))
            have htk : ((flip b).map fun c => (applyM a c).1).take b.length = (flip b).map fun c => (applyM a c).1 := List.take_of_length_le (by rw [List.length_map, flip_length]; exact Nat.le_refl _)
            rw [htk] at hM
            obtain ⟨ro, rc, rfl, hR, _, _⟩ := hM.read
            have hcl : ((flip b).map fun c => (applyM a c).1).length = b.length := by rw [List.length_map, flip_length]
            have hrw : ∀ r ∈ (flip b).map (fun c => (applyM a c).1), ((flip b).map fun c => (applyM a c).1).length ≤ r.length ∧ r.length ≤ 2000000 := fun r hr => by
              obtain ⟨c, hc, rfl⟩ := List.mem_map.1 hr
              obtain ⟨i, hi, rfl⟩ := List.getElem_of_mem hc
              have h1 := applyM_length (m := a) (v := (flip b)[i]) (hinv.out i hi (by rw [flip_length] at hi; omega))
              have h2 := HL.out
              omega
            have hm := hfin.out
            clear hfin htk
            generalize (flip b).map (fun c => (applyM a c).1) = cols at *
            have hfin := Lib.hid hm
            have hcl' := Lib.hid hcl
            clear hcl hm
            go_wp2_with fail
            refine (sColumns _ cols _ (by rw [hcl'.out]; omega) hrw _ hR).mono ?_
            rintro e w7 ⟨x, rfl, hx, hb7⟩
            have hx2 := hx.mono hs6
            rw [show flip cols = (mulM a b).1 by rw [hfin.out]] at hx2
            go_wp2
            go_ret2
            exact ⟨_, by rw [hfin.out]; rfl, hx2, by (repeat (first | with_reducible exact Below.refl _ _ | with_reducible assumption | with_reducible refine Below.setCell ?_ (by first | omega | (simp; done) | (simp; omega)) _ | with_reducible refine Below.alloc ?_ (by first | omega | (simp; done) | (simp; omega)) _ | with_reducible refine Below.drew ?_ | with_reducible refine belowDrewN ?_ _ | with_reducible refine Below.trans ?_ (Below.mono (by assumption) (by first | omega | (simp; done) | (simp; omega)))))⟩
      · have hl' : ((a.length : Int) != (b.length : Int)) = true := by simp; omega
        have hfin := Lib.hid (mulM_no (a := a) (b := b) (by simp [hl]))
        clear hl
        go_enter Try.func73, Try.ntmps73
        go_wp2_with fail
        refine (sIsValidMatrix _ _ _ hza _ h).mono ?_
        rintro e w1 ⟨rfl, hb1⟩
        have hs1 := hb1.size
        go_wp2_with fail
        refine (sIsValidMatrix _ _ _ hzb _ (h'.below hb1)).mono ?_
        rintro e w2 ⟨rfl, hb2⟩
        have hs2 := hb2.size
        go_wp2
        go_ret2
        exact ⟨.slice (some ⟨_, 0, none⟩) 0 0, by rw [hfin.out]; rfl, by rw [hfin.out]; exact OwnM.empty' (by simp) (by first | omega | (simp; done) | (simp; omega)), by (repeat (first | with_reducible exact Below.refl _ _ | with_reducible assumption | with_reducible refine Below.setCell ?_ (by first | omega | (simp; done) | (simp; omega)) _ | with_reducible refine Below.alloc ?_ (by first | omega | (simp; done) | (simp; omega)) _ | with_reducible refine Below.drew ?_ | with_reducible refine belowDrewN ?_ _ | with_reducible refine Below.trans ?_ (Below.mono (by assumption) (by first | omega | (simp; done) | (simp; omega)))))⟩
    · have hfin := Lib.hid (mulM_no (a := a) (b := b) (by simp [hB]))
      go_enter Try.func73, Try.ntmps73
      go_wp2_with fail
      refine (sIsValidMatrix _ _ _ hza _ h).mono ?_
      rintro e w1 ⟨rfl, hb1⟩
      have hs1 := hb1.size
      go_wp2_with fail
      refine (sIsValidMatrix _ _ _ hzb _ (h'.below hb1)).mono ?_
      rintro e w2 ⟨rfl, hb2⟩
      have hs2 := hb2.size
      go_wp2
      go_ret2
      exact ⟨.slice (some ⟨_, 0, none⟩) 0 0, by rw [hfin.out]; rfl, by rw [hfin.out]; exact OwnM.empty' (by simp) (by first | omega | (simp; done) | (simp; omega)), by (repeat (first | with_reducible exact Below.refl _ _ | with_reducible assumption | with_reducible refine Below.setCell ?_ (by first | omega | (simp; done) | (simp; omega)) _ | with_reducible refine Below.alloc ?_ (by first | omega | (simp; done) | (simp; omega)) _ | with_reducible refine Below.drew ?_ | with_reducible refine belowDrewN ?_ _ | with_reducible refine Below.trans ?_ (Below.mono (by assumption) (by first | omega | (simp; done) | (simp; omega)))))⟩
  · have hfin := Lib.hid (mulM_no (a := a) (b := b) (by simp [hA]))
    go_enter Try.func73, Try.ntmps73
    go_wp2_with fail
    refine (sIsValidMatrix _ _ _ hza _ h).mono ?_
    rintro e w1 ⟨rfl, hb1⟩
    have hs1 := hb1.size
    go_wp2
    go_ret2
    exact ⟨.slice (some ⟨_, 0, none⟩) 0 0, by rw [hfin.out]; rfl, by rw [hfin.out]; exact OwnM.empty' (by simp) (by first | omega | (simp; done) | (simp; omega)), by (repeat (first | with_reducible exact Below.refl _ _ | with_reducible assumption | with_reducible refine Below.setCell ?_ (by first | omega | (simp; done) | (simp; omega)) _ | with_reducible refine Below.alloc ?_ (by first | omega | (simp; done) | (simp; omega)) _ | with_reducible refine Below.drew ?_ | with_reducible refine belowDrewN ?_ _ | with_reducible refine Below.trans ?_ (Below.mono (by assumption) (by first | omega | (simp; done) | (simp; omega)))))⟩

end Go.Proofs.Yteckhaafdojoeaa

/-! S19: The adjoint matrix (spec). -/
namespace Go.Proofs.Yteckhaafdojoeaa
open Go.RowKit

def conjP (l : List DO) (j : Nat) : List DO := l.mapIdx fun q x => if q < j then conjD x else x
theorem conjP_length (l : List DO) (j : Nat) : (conjP l j).length = l.length := by simp [conjP]
theorem conjP_zero (l : List DO) : conjP l 0 = l := by
  apply List.ext_getElem (by simp [conjP])
  intro i h1 h2
  simp [conjP]
theorem conjP_end {l : List DO} {j : Nat} (h : l.length ≤ j) : conjP l j = l.map conjD := by
  apply List.ext_getElem (by simp [conjP])
  intro i h1 h2
  have : i < l.length := by simpa [conjP] using h1
  simp [conjP]
  omega
theorem conjP_elem {l : List DO} {j : Nat} (h : j < l.length) (h1 : j < (conjP l j).length) : (conjP l j)[j] = l[j] := by simp [conjP]
theorem conjP_step {l : List DO} {j : Nat} (h : j < l.length) : (conjP l j).set j (conjD l[j]) = conjP l (j + 1) := by
  apply List.ext_getElem (by simp [conjP])
  intro i h1 h2
  by_cases hi : i = j
  · subst hi
    simp [conjP]
  · rw [List.getElem_set_ne (by omega)]
    simp only [conjP, List.getElem_mapIdx]
    by_cases h3 : i < j
    · rw [if_pos h3, if_pos (by omega)]
    · rw [if_neg h3, if_neg (by omega)]

theorem OwnS.block {w : World} {base n cap : Nat} {ao : Option Addr} {l : List DO} (h : OwnS w base (.slice ao n cap) l) (h0 : 0 < l.length) : ∃ g, ao = some ⟨g, 0, none⟩ ∧ base ≤ g ∧ g < w.heap.size := by
  rcases h.2 with ⟨_, h1⟩ | ⟨g, cap, cur, hv, hbg, hg, r⟩
  · omega
  · cases hv
    exact ⟨g, rfl, hbg, (Array.getElem?_eq_some_iff.1 hg).1⟩
theorem OwnS.at {w : World} {base n cap g : Nat} {l : List DO} (h : OwnS w base (.slice (some ⟨g, 0, none⟩) n cap) l) {j : Nat} (hj : j < l.length) :
    DAt w g (j * 5) l[j] ∧ (∀ o, w.frozen? ⟨g, o, none⟩ = false) ∧ ∀ w2 x, Below w.heap.size w w2 → OwnS (setD w2 g j x) base (.slice (some ⟨g, 0, none⟩) n cap) (l.set j x) :=
  ⟨h.cells hj, h.frozen, fun _ x hb => (h.below hb (Nat.le_refl _)).set j hj x⟩

set_option maxRecDepth 100000 in
set_option maxHeartbeats 8000000 in
theorem sAdjointMatrix (ao : Option Addr) (m : List (List DO)) (cap : Nat) (hz : SzM m) (w : World) (h : MtR w ao m) :
    Calls Try.prog 76 #[.slice ao m.length cap] w fun e w' => ∃ v, e = .returned v ∧ OwnM w' w.heap.size v (adjM m) ∧ Below w.heap.size w w' := by
  obtain ⟨iS, hiS, hzS0, hzS1, hzS2⟩ := info_parts infoS
  by_cases hm : okM m = true
  · have hfin := Lib.hid (adjM_yes hm)
    have hml := okM_len hm
    have hrm := fun r hr => (okM_rows (r := r) hm hr).1
    have HRM := Lib.hid hrm
    clear hrm
    go_enter Try.func76, Try.ntmps76
    go_wp2
    go_loopw [3, 4] (fun v x wr => ∃ k : Nat, x = .int .i64 k ∧ k ≤ m.length ∧ OwnM wr w.heap.size v (((flip m).map fun r => r.map conjD).take k) ∧ Below w.heap.size w wr) (fun _ x _ => m.length - (intOf x).toNat)
    case atStart => exact ⟨0, rfl, Nat.zero_le _, OwnM.empty (Nat.le_refl _), by (repeat (first | with_reducible exact Below.refl _ _ | with_reducible assumption | with_reducible refine Below.setCell ?_ (by first | omega | (simp; done) | (simp; omega)) _ | with_reducible refine Below.alloc ?_ (by first | omega | (simp; done) | (simp; omega)) _ | with_reducible refine Below.drew ?_ | with_reducible refine belowDrewN ?_ _ | with_reducible refine Below.trans ?_ (Below.mono (by assumption) (by first | omega | (simp; done) | (simp; omega)))))⟩
    case round =>
      obtain ⟨k, rfl, h0, hM, hb0⟩ := hrel
      have hs0 := hb0.size
      by_cases hk : k < m.length
      · have hlen2 : (((flip m).map fun r => r.map conjD).take k).length = k := by rw [List.length_take, List.length_map, flip_length]; omega
        have hk' : k < (flip m).length := by rw [flip_length]; exact hk
        have hsnoc := map_take_snoc (flip m) (fun r => r.map conjD) k hk'
        rw [flip_get hk'] at hsnoc
        have HS := Lib.hid hsnoc
        clear hsnoc hk'
        go_wp2_with fail
        refine (sIsValidMatrix _ _ _ hz _ (h.below hb0)).mono ?_
        rintro e w1 ⟨rfl, hb1⟩
        have hs1 := hb1.size
        have hb01 : Below w.heap.size w w1 := hb0.trans (hb1.mono hs0)
        go_wp2_with fail
        refine (sColumn _ m k _ (by omega) (fun r hr => by have := HRM.out r hr; omega) (by omega) _ (h.below hb01)).mono ?_
        rintro e w7 ⟨x, rfl, hx, hb7⟩
        have hs7 := hb7.size
        have hb17 : Below wr.heap.size wr w7 := hb1.trans (hb7.mono hs1)
        have hx1 := hx.mono hs1
        have hcl : (colAt m k).length = m.length := colAt_length m k
        clear hx
        rw [← conjP_zero (colAt m k)] at hx1
        obtain ⟨xo, xc, rfl, _, _, _⟩ := hx1.read
        obtain ⟨g, rfl, hgb, hgs⟩ := hx1.block (by rw [conjP_length, hcl]; omega)
        rw [conjP_length] at hx1 ⊢
        have HC := Lib.hid hcl
        rw [hcl] at hx1 ⊢
        clear hcl
        obtain ⟨wo, rfl⟩ : ∃ wo : World, wo = wr := ⟨_, rfl⟩
        go_wp2
        go_loopw [6] (fun y wi => ∃ j : Nat, y = .int .i64 j ∧ j ≤ m.length ∧ OwnS wi wo.heap.size (.slice (some ⟨g, 0, none⟩) m.length xc) (conjP (colAt m k) j) ∧ Below wo.heap.size wo wi ∧ g < wi.heap.size) (fun y _ => m.length - (intOf y).toNat)
        case atStart => exact ⟨0, rfl, Nat.zero_le _, hx1, hb17, hgs⟩
        case round =>
          obtain ⟨j, rfl, j0, hS, hb4, hg4⟩ := hrel
          have hs4 := hb4.size
          by_cases hj : j < m.length
          · have hjF : j < (colAt m k).length := by rw [HC.out]; exact hj
            have hjP : j < (conjP (colAt m k) j).length := by rw [conjP_length]; exact hjF
            obtain ⟨hD, q7, q8⟩ := hS.at hjP
            have hstep := conjP_step hjF
            have hxe := conjP_elem hjF hjP
            obtain ⟨x, hx⟩ : ∃ x, x = (colAt m k)[j] := ⟨_, rfl⟩
            rw [← hx] at hstep hxe
            have q9 := fun w2 hb => q8 w2 (conjD x) hb
            rw [hstep] at q9
            rw [hxe] at hD
            have q8' := Lib.hid q9
            obtain ⟨d0, d1, d2, d3, d4⟩ := hD
            clear q8 q9 hS hM hx1 hstep hxe hx h
            go_wp2_with (go_at_call 146; refine (sConjD' x _).mono ?_; rintro e wa ⟨rfl, hb⟩; obtain ⟨hc, hf, hz⟩ := bcell hb; (try simp only [World.size_drew, World.cell?_drew, World.frozen?_drew] at hc hf hz); (try simp at hz); (try have kk := fun o => hc (g) o (by first | omega | (simp; done) | (simp; omega))); (try have kf := fun o => hf (g) o (by first | omega | (simp; done) | (simp; omega))); (try have zz : g < wa.heap.size := by omega))
            all_goals go_roundw
            all_goals first
              | exact ⟨j + 1, by go_num, by omega, q8'.out _ (by (repeat (first | with_reducible exact Below.refl _ _ | with_reducible assumption | with_reducible refine Below.setCell ?_ (by first | omega | (simp; done) | (simp; omega)) _ | with_reducible refine Below.alloc ?_ (by first | omega | (simp; done) | (simp; omega)) _ | with_reducible refine Below.drew ?_ | with_reducible refine belowDrewN ?_ _ | with_reducible refine Below.trans ?_ (Below.mono (by assumption) (by first | omega | (simp; done) | (simp; omega)))))), by (repeat (first | with_reducible exact Below.refl _ _ | with_reducible assumption | with_reducible refine Below.setCell ?_ (by first | omega | (simp; done) | (simp; omega)) _ | with_reducible refine Below.alloc ?_ (by first | omega | (simp; done) | (simp; omega)) _ | with_reducible refine Below.drew ?_ | with_reducible refine belowDrewN ?_ _ | with_reducible refine Below.trans ?_ (Below.mono (by assumption) (by first | omega | (simp; done) | (simp; omega))))), (by first | omega | (simp; done) | (simp; omega))⟩
              | (simp [intOf]; omega)
          · rw [conjP_end (by rw [HC.out]; omega)] at hS
            have hrl : ((colAt m k).map conjD).length = m.length := by rw [List.length_map, HC.out]
            obtain ⟨R, hR⟩ : ∃ R, R = (colAt m k).map conjD := ⟨_, rfl⟩
            rw [← hR] at hS hrl
            have HL := Lib.hid hrl
            clear hrl
            have HR := Lib.hid hR
            have hs5 := HS.out
            rw [← hR] at hs5
            have HS' := Lib.hid hs5
            obtain ⟨vs, ho, hrows, hdist⟩ := hM
            have hb8 : Below w.heap.size w wr := hb0.trans (hb4.mono hs0)
            have hs8 := hb8.size
            have ho1 := ownsRow_below ho hb4 (Nat.le_refl _)
            clear h hR hs5 HS
            go_wp2_with (first | (at_builtin; refine wpList_append_own _ rfl _ _ 26 rfl w.heap.size TS iS _ 1 24 Try.underlying26 hiS hzS0 hzS1 hzS2 rfl (by decide) _ _ _ rfl (World.ownsRow.alloc ho1 _) ⟨wr.heap.size, 0, none⟩ 1 1 [.slice (some ⟨g, 0, none⟩) m.length xc] rfl rfl ?c1 ?c2 ?c3 ?c4 ?c5 ?_))
            case c1 => exact at_new _ [Value.slice (some ⟨g, 0, none⟩) m.length xc] _
            case c2 => exact slice_one _ _ _
            case c3 => rw [hlen2]; unfold maxLen; omega
            case c4 => rw [hlen2]; omega
            case c5 => simp; omega
            intro v' w' hown' hgrow _
            have hM' : OwnM w' w.heap.size v' (((flip m).map fun r => r.map conjD).take (k + 1)) := by
              rw [HS'.out]
              exact OwnM.snoc hs0 ho hrows hdist hb4 hS (by rw [hlen2]; exact hown') hgrow
            have hbb : Below w.heap.size w w' := (hb8.alloc hs8 _).grown hgrow (by simp; omega) fun g hg => (World.ownsRow.lt ho1 g hg).1
            clear hown' hgrow ho ho1 hrows hdist
            go_wp2
            go_roundw
            case rel => exact ⟨k + 1, by go_num, by omega, hM', hbb⟩
            case measure => simp [intOf]; omega
      · have hkl : k = m.length := by omega
        subst hkl
        have hf : ((flip m).map fun r => r.map conjD).take m.length = (flip m).map fun r => r.map conjD := List.take_of_length_le (by rw [List.length_map, flip_length]; exact Nat.le_refl _)
        rw [hf, ← hfin.out] at hM
        go_wp2_with fail
        refine (sIsValidMatrix _ _ _ hz _ (h.below hb0)).mono ?_
        rintro e w1 ⟨rfl, hb1⟩
        go_wp2
        go_ret
        exact ⟨_, rfl, hM.below hb1 (Nat.le_refl _), by (repeat (first | with_reducible exact Below.refl _ _ | with_reducible assumption | with_reducible refine Below.setCell ?_ (by first | omega | (simp; done) | (simp; omega)) _ | with_reducible refine Below.alloc ?_ (by first | omega | (simp; done) | (simp; omega)) _ | with_reducible refine Below.drew ?_ | with_reducible refine belowDrewN ?_ _ | with_reducible refine Below.trans ?_ (Below.mono (by assumption) (by first | omega | (simp; done) | (simp; omega)))))⟩
  · have hfin := Lib.hid (adjM_no hm)
    go_enter Try.func76, Try.ntmps76
    go_wp2
    go_loopw [3, 4] (fun v x wr => x = .int .i64 0 ∧ OwnM wr w.heap.size v [] ∧ Below w.heap.size w wr) (fun _ x _ => 0)
    case atStart => exact ⟨rfl, OwnM.empty (Nat.le_refl _), by (repeat (first | with_reducible exact Below.refl _ _ | with_reducible assumption | with_reducible refine Below.setCell ?_ (by first | omega | (simp; done) | (simp; omega)) _ | with_reducible refine Below.alloc ?_ (by first | omega | (simp; done) | (simp; omega)) _ | with_reducible refine Below.drew ?_ | with_reducible refine belowDrewN ?_ _ | with_reducible refine Below.trans ?_ (Below.mono (by assumption) (by first | omega | (simp; done) | (simp; omega)))))⟩
    case round =>
      obtain ⟨rfl, hM, hb0⟩ := hrel
      have hs0 := hb0.size
      go_wp2_with fail
      refine (sIsValidMatrix _ _ _ hz _ (h.below hb0)).mono ?_
      rintro e w1 ⟨rfl, hb1⟩
      go_wp2
      go_ret
      exact ⟨_, rfl, by rw [hfin.out]; exact hM.below hb1 (Nat.le_refl _), by (repeat (first | with_reducible exact Below.refl _ _ | with_reducible assumption | with_reducible refine Below.setCell ?_ (by first | omega | (simp; done) | (simp; omega)) _ | with_reducible refine Below.alloc ?_ (by first | omega | (simp; done) | (simp; omega)) _ | with_reducible refine Below.drew ?_ | with_reducible refine belowDrewN ?_ _ | with_reducible refine Below.trans ?_ (Below.mono (by assumption) (by first | omega | (simp; done) | (simp; omega)))))⟩

end Go.Proofs.Yteckhaafdojoeaa

/-! S20: The identity matrix; whether a matrix is unitary (spec). -/
namespace Go.Proofs.Yteckhaafdojoeaa
open Go.RowKit

set_option maxRecDepth 100000 in
set_option maxHeartbeats 8000000 in
theorem sIdentityMatrix (n : Int) (w : World) :
    Calls Try.prog 39 #[.int .i64 n] w fun e w' => ∃ v, e = .returned v ∧ OwnM w' w.heap.size v (identM n) ∧ Below w.heap.size w w' := by
  obtain ⟨iS, hiS, hzS0, hzS1, hzS2⟩ := info_parts infoS
  by_cases hn : inR 1 4 n = true
  · have hn' := (inR_iff _ _ _).1 hn
    have hcase : n = 1 ∨ n = 2 ∨ n = 3 ∨ n = 4 := by omega
    rcases hcase with rfl | rfl | rfl | rfl
    · have hlen : (identM 1).length = 2 := rfl
      have hfin := Lib.hid (identM_take (n := 1) (N := 2) rfl rfl)
      have HL := Lib.hid hlen
      clear hlen
      go_enter Try.func39, Try.ntmps39
      go_wp2
      go_loopw [3, 4] (fun v x wr => ∃ j : Nat, x = .int .i64 j ∧ j ≤ 2 ∧ OwnM wr w.heap.size v ((identM 1).take j) ∧ Below w.heap.size w wr) (fun _ x _ => 2 - (intOf x).toNat)
      case atStart => exact ⟨0, rfl, Nat.zero_le _, OwnM.empty (Nat.le_refl _), by (repeat (first | with_reducible exact Below.refl _ _ | with_reducible assumption | with_reducible refine Below.setCell ?_ (by first | omega | (simp; done) | (simp; omega)) _ | with_reducible refine Below.alloc ?_ (by first | omega | (simp; done) | (simp; omega)) _ | with_reducible refine Below.drew ?_ | with_reducible refine belowDrewN ?_ _ | with_reducible refine Below.trans ?_ (Below.mono (by assumption) (by first | omega | (simp; done) | (simp; omega)))))⟩
      case round =>
        obtain ⟨j, rfl, h0, hM, hb0⟩ := hrel
        have hs0 := hb0.size
        by_cases hj : j < 2
        · have htl : ((identM 1).take j).length = j := by rw [List.length_take, HL.out]; omega
          go_wp2_with (first | (go_at_call 102; refine (sIn _ _ _ _).mono ?_; rintro e w1 ⟨rfl, rfl⟩) | fail)
          refine (sBasisState _ _ _).mono ?_
          rintro e w7 ⟨x, rfl, hx, hb7⟩
          obtain ⟨vs, ho, hrows, hdist⟩ := hM
          have hb8 : Below w.heap.size w w7 := hb0.trans (hb7.mono hs0)
          have hs8 := hb8.size
          obtain ⟨xo, xc, rfl, _, _, _⟩ := hx.read
          have ho1 := ownsRow_below ho hb7 (Nat.le_refl _)
          go_wp2_with (first | (at_builtin; refine wpList_append_own _ rfl _ _ 26 rfl w.heap.size TS iS _ 1 24 Try.underlying26 hiS hzS0 hzS1 hzS2 rfl (by decide) _ _ _ rfl (World.ownsRow.alloc ho1 _) ⟨w7.heap.size, 0, none⟩ 1 1 [.slice xo (basis 1 j).length xc] rfl rfl ?c1 ?c2 ?c3 ?c4 ?c5 ?_))
          case c1 => exact at_new _ [Value.slice xo (basis 1 j).length xc] _
          case c2 => exact slice_one _ _ _
          case c3 => rw [htl]; unfold maxLen; omega
          case c4 => rw [htl]; omega
          case c5 => simp; omega
          intro v' w' hown' hgrow _
          have hM' : OwnM w' w.heap.size v' ((identM 1).take (j + 1)) := by
            rw [hfin.out j hj]
            exact OwnM.snoc hs0 ho hrows hdist hb7 hx (by rw [htl]; exact hown') hgrow
          have hbb : Below w.heap.size w w' := (hb8.alloc hs8 _).grown hgrow (by simp; omega) fun g hg => (World.ownsRow.lt ho1 g hg).1
          clear hown' hgrow ho ho1 hrows hdist
          go_wp2
          go_roundw
          case rel => exact ⟨j + 1, by go_num, by omega, hM', hbb⟩
          case measure => simp [intOf]; omega
        · have hjn : j = 2 := by omega
          subst hjn
          have htk : (identM 1).take 2 = identM 1 := List.take_of_length_le (by rw [HL.out]; exact Nat.le_refl _)
          rw [htk] at hM
          go_wp2_with (go_at_call 102; refine (sIn _ _ _ _).mono ?_; rintro e w1 ⟨rfl, rfl⟩)
          go_ret
          exact ⟨_, rfl, hM, hb0⟩
    · have hlen : (identM 2).length = 4 := rfl
      have hfin := Lib.hid (identM_take (n := 2) (N := 4) rfl rfl)
      have HL := Lib.hid hlen
      clear hlen
      go_enter Try.func39, Try.ntmps39
      go_wp2
      go_loopw [3, 4] (fun v x wr => ∃ j : Nat, x = .int .i64 j ∧ j ≤ 4 ∧ OwnM wr w.heap.size v ((identM 2).take j) ∧ Below w.heap.size w wr) (fun _ x _ => 4 - (intOf x).toNat)
      case atStart => exact ⟨0, rfl, Nat.zero_le _, OwnM.empty (Nat.le_refl _), by (repeat (first | with_reducible exact Below.refl _ _ | with_reducible assumption | with_reducible refine Below.setCell ?_ (by first | omega | (simp; done) | (simp; omega)) _ | with_reducible refine Below.alloc ?_ (by first | omega | (simp; done) | (simp; omega)) _ | with_reducible refine Below.drew ?_ | with_reducible refine belowDrewN ?_ _ | with_reducible refine Below.trans ?_ (Below.mono (by assumption) (by first | omega | (simp; done) | (simp; omega)))))⟩
      case round =>
        obtain ⟨j, rfl, h0, hM, hb0⟩ := hrel
        have hs0 := hb0.size
        by_cases hj : j < 4
        · have htl : ((identM 2).take j).length = j := by rw [List.length_take, HL.out]; omega
          go_wp2_with (first | (go_at_call 102; refine (sIn _ _ _ _).mono ?_; rintro e w1 ⟨rfl, rfl⟩) | fail)
          refine (sBasisState _ _ _).mono ?_
          rintro e w7 ⟨x, rfl, hx, hb7⟩
          obtain ⟨vs, ho, hrows, hdist⟩ := hM
          have hb8 : Below w.heap.size w w7 := hb0.trans (hb7.mono hs0)
          have hs8 := hb8.size
          obtain ⟨xo, xc, rfl, _, _, _⟩ := hx.read
          have ho1 := ownsRow_below ho hb7 (Nat.le_refl _)
          go_wp2_with (first | (at_builtin; refine wpList_append_own _ rfl _ _ 26 rfl w.heap.size TS iS _ 1 24 Try.underlying26 hiS hzS0 hzS1 hzS2 rfl (by decide) _ _ _ rfl (World.ownsRow.alloc ho1 _) ⟨w7.heap.size, 0, none⟩ 1 1 [.slice xo (basis 2 j).length xc] rfl rfl ?c1 ?c2 ?c3 ?c4 ?c5 ?_))
          case c1 => exact at_new _ [Value.slice xo (basis 2 j).length xc] _
          case c2 => exact slice_one _ _ _
          case c3 => rw [htl]; unfold maxLen; omega
          case c4 => rw [htl]; omega
          case c5 => simp; omega
          intro v' w' hown' hgrow _
          have hM' : OwnM w' w.heap.size v' ((identM 2).take (j + 1)) := by
            rw [hfin.out j hj]
            exact OwnM.snoc hs0 ho hrows hdist hb7 hx (by rw [htl]; exact hown') hgrow
          have hbb : Below w.heap.size w w' := (hb8.alloc hs8 _).grown hgrow (by simp; omega) fun g hg => (World.ownsRow.lt ho1 g hg).1
          clear hown' hgrow ho ho1 hrows hdist
          go_wp2
          go_roundw
          case rel => exact ⟨j + 1, by go_num, by omega, hM', hbb⟩
          case measure => simp [intOf]; omega
        · have hjn : j = 4 := by omega
          subst hjn
          have htk : (identM 2).take 4 = identM 2 := List.take_of_length_le (by rw [HL.out]; exact Nat.le_refl _)
          rw [htk] at hM
          go_wp2_with (go_at_call 102; refine (sIn _ _ _ _).mono ?_; rintro e w1 ⟨rfl, rfl⟩)
          go_ret
          exact ⟨_, rfl, hM, hb0⟩
    · have hlen : (identM 3).length = 8 := rfl
      have hfin := Lib.hid (identM_take (n := 3) (N := 8) rfl rfl)
      have HL := Lib.hid hlen
      clear hlen
      go_enter Try.func39, Try.ntmps39
      go_wp2
      go_loopw [3, 4] (fun v x wr => ∃ j : Nat, x = .int .i64 j ∧ j ≤ 8 ∧ OwnM wr w.heap.size v ((identM 3).take j) ∧ Below w.heap.size w wr) (fun _ x _ => 8 - (intOf x).toNat)
      case atStart => exact ⟨0, rfl, Nat.zero_le _, OwnM.empty (Nat.le_refl _), by (repeat (first | with_reducible exact Below.refl _ _ | with_reducible assumption | with_reducible refine Below.setCell ?_ (by first | omega | (simp; done) | (simp; omega)) _ | with_reducible refine Below.alloc ?_ (by first | omega | (simp; done) | (simp; omega)) _ | with_reducible refine Below.drew ?_ | with_reducible refine belowDrewN ?_ _ | with_reducible refine Below.trans ?_ (Below.mono (by assumption) (by first | omega | (simp; done) | (simp; omega)))))⟩
      case round =>
        obtain ⟨j, rfl, h0, hM, hb0⟩ := hrel
        have hs0 := hb0.size
        by_cases hj : j < 8
        · have htl : ((identM 3).take j).length = j := by rw [List.length_take, HL.out]; omega
          go_wp2_with (first | (go_at_call 102; refine (sIn _ _ _ _).mono ?_; rintro e w1 ⟨rfl, rfl⟩) | fail)
          refine (sBasisState _ _ _).mono ?_
          rintro e w7 ⟨x, rfl, hx, hb7⟩
          obtain ⟨vs, ho, hrows, hdist⟩ := hM
          have hb8 : Below w.heap.size w w7 := hb0.trans (hb7.mono hs0)
          have hs8 := hb8.size
          obtain ⟨xo, xc, rfl, _, _, _⟩ := hx.read
          have ho1 := ownsRow_below ho hb7 (Nat.le_refl _)
          go_wp2_with (first | (at_builtin; refine wpList_append_own _ rfl _ _ 26 rfl w.heap.size TS iS _ 1 24 Try.underlying26 hiS hzS0 hzS1 hzS2 rfl (by decide) _ _ _ rfl (World.ownsRow.alloc ho1 _) ⟨w7.heap.size, 0, none⟩ 1 1 [.slice xo (basis 3 j).length xc] rfl rfl ?c1 ?c2 ?c3 ?c4 ?c5 ?_))
          case c1 => exact at_new _ [Value.slice xo (basis 3 j).length xc] _
          case c2 => exact slice_one _ _ _
          case c3 => rw [htl]; unfold maxLen; omega
          case c4 => rw [htl]; omega
          case c5 => simp; omega
          intro v' w' hown' hgrow _
          have hM' : OwnM w' w.heap.size v' ((identM 3).take (j + 1)) := by
            rw [hfin.out j hj]
            exact OwnM.snoc hs0 ho hrows hdist hb7 hx (by rw [htl]; exact hown') hgrow
          have hbb : Below w.heap.size w w' := (hb8.alloc hs8 _).grown hgrow (by simp; omega) fun g hg => (World.ownsRow.lt ho1 g hg).1
          clear hown' hgrow ho ho1 hrows hdist
          go_wp2
          go_roundw
          case rel => exact ⟨j + 1, by go_num, by omega, hM', hbb⟩
          case measure => simp [intOf]; omega
        · have hjn : j = 8 := by omega
          subst hjn
          have htk : (identM 3).take 8 = identM 3 := List.take_of_length_le (by rw [HL.out]; exact Nat.le_refl _)
          rw [htk] at hM
          go_wp2_with (go_at_call 102; refine (sIn _ _ _ _).mono ?_; rintro e w1 ⟨rfl, rfl⟩)
          go_ret
          exact ⟨_, rfl, hM, hb0⟩
    · have hlen : (identM 4).length = 16 := rfl
      have hfin := Lib.hid (identM_take (n := 4) (N := 16) rfl rfl)
      have HL := Lib.hid hlen
      clear hlen
      go_enter Try.func39, Try.ntmps39
      go_wp2
      go_loopw [3, 4] (fun v x wr => ∃ j : Nat, x = .int .i64 j ∧ j ≤ 16 ∧ OwnM wr w.heap.size v ((identM 4).take j) ∧ Below w.heap.size w wr) (fun _ x _ => 16 - (intOf x).toNat)
      case atStart => exact ⟨0, rfl, Nat.zero_le _, OwnM.empty (Nat.le_refl _), by (repeat (first | with_reducible exact Below.refl _ _ | with_reducible assumption | with_reducible refine Below.setCell ?_ (by first | omega | (simp; done) | (simp; omega)) _ | with_reducible refine Below.alloc ?_ (by first | omega | (simp; done) | (simp; omega)) _ | with_reducible refine Below.drew ?_ | with_reducible refine belowDrewN ?_ _ | with_reducible refine Below.trans ?_ (Below.mono (by assumption) (by first | omega | (simp; done) | (simp; omega)))))⟩
      case round =>
        obtain ⟨j, rfl, h0, hM, hb0⟩ := hrel
        have hs0 := hb0.size
        by_cases hj : j < 16
        · have htl : ((identM 4).take j).length = j := by rw [List.length_take, HL.out]; omega
          go_wp2_with (first | (go_at_call 102; refine (sIn _ _ _ _).mono ?_; rintro e w1 ⟨rfl, rfl⟩) | fail)
          refine (sBasisState _ _ _).mono ?_
          rintro e w7 ⟨x, rfl, hx, hb7⟩
          obtain ⟨vs, ho, hrows, hdist⟩ := hM
          have hb8 : Below w.heap.size w w7 := hb0.trans (hb7.mono hs0)
          have hs8 := hb8.size
          obtain ⟨xo, xc, rfl, _, _, _⟩ := hx.read
          have ho1 := ownsRow_below ho hb7 (Nat.le_refl _)
          go_wp2_with (first | (at_builtin; refine wpList_append_own _ rfl _ _ 26 rfl w.heap.size TS iS _ 1 24 Try.underlying26 hiS hzS0 hzS1 hzS2 rfl (by decide) _ _ _ rfl (World.ownsRow.alloc ho1 _) ⟨w7.heap.size, 0, none⟩ 1 1 [.slice xo (basis 4 j).length xc] rfl rfl ?c1 ?c2 ?c3 ?c4 ?c5 ?_))
          case c1 => exact at_new _ [Value.slice xo (basis 4 j).length xc] _
          case c2 => exact slice_one _ _ _
          case c3 => rw [htl]; unfold maxLen; omega
          case c4 => rw [htl]; omega
          case c5 => simp; omega
          intro v' w' hown' hgrow _
          have hM' : OwnM w' w.heap.size v' ((identM 4).take (j + 1)) := by
            rw [hfin.out j hj]
            exact OwnM.snoc hs0 ho hrows hdist hb7 hx (by rw [htl]; exact hown') hgrow
          have hbb : Below w.heap.size w w' := (hb8.alloc hs8 _).grown hgrow (by simp; omega) fun g hg => (World.ownsRow.lt ho1 g hg).1
          clear hown' hgrow ho ho1 hrows hdist
          go_wp2
          go_roundw
          case rel => exact ⟨j + 1, by go_num, by omega, hM', hbb⟩
          case measure => simp [intOf]; omega
        · have hjn : j = 16 := by omega
          subst hjn
          have htk : (identM 4).take 16 = identM 4 := List.take_of_length_le (by rw [HL.out]; exact Nat.le_refl _)
          rw [htk] at hM
          go_wp2_with (go_at_call 102; refine (sIn _ _ _ _).mono ?_; rintro e w1 ⟨rfl, rfl⟩)
          go_ret
          exact ⟨_, rfl, hM, hb0⟩
  · have hfin := Lib.hid (identM_no hn)
    have hno : inR 1 4 n = false := by simpa using hn
    go_enter Try.func39, Try.ntmps39
    go_wp2
    go_loopw [3, 4] (fun v x wr => x = .int .i64 0 ∧ OwnM wr w.heap.size v [] ∧ Below w.heap.size w wr) (fun _ x _ => 0)
    case atStart => exact ⟨rfl, OwnM.empty (Nat.le_refl _), by (repeat (first | with_reducible exact Below.refl _ _ | with_reducible assumption | with_reducible refine Below.setCell ?_ (by first | omega | (simp; done) | (simp; omega)) _ | with_reducible refine Below.alloc ?_ (by first | omega | (simp; done) | (simp; omega)) _ | with_reducible refine Below.drew ?_ | with_reducible refine belowDrewN ?_ _ | with_reducible refine Below.trans ?_ (Below.mono (by assumption) (by first | omega | (simp; done) | (simp; omega)))))⟩
    case round =>
      obtain ⟨rfl, hM, hb0⟩ := hrel
      go_wp2_with (go_at_call 102; refine (sIn _ _ _ _).mono ?_; rintro e w1 ⟨rfl, rfl⟩)
      go_ret
      exact ⟨_, rfl, by rw [hfin.out]; exact hM, hb0⟩

set_option maxHeartbeats 4000000 in
theorem sIsUnitary (ao : Option Addr) (m : List (List DO)) (cap : Nat) (hz : SzM m) (w : World) (h : MtR w ao m) :
    Calls Try.prog 41 #[.slice ao m.length cap] w fun e w' => e = .returned (.bool (unitary m)) ∧ Below w.heap.size w w' := by
  by_cases hok : okM m = true
  · go_enter Try.func41, Try.ntmps41
    go_wp2_with fail
    refine (sIsValidMatrix _ _ _ hz _ h).mono ?_
    rintro e w0 ⟨rfl, hb0⟩
    have hs0 := hb0.size
    go_wp2_with fail
    refine (sAdjointMatrix _ _ _ hz _ (h.below hb0)).mono ?_
    rintro e w1 ⟨x, rfl, hx, hb1⟩
    have hs1 := hb1.size
    have hb01 : Below w.heap.size w w1 := hb0.trans (hb1.mono hs0)
    have hs01 := hb01.size
    obtain ⟨xo, xc, rfl, hxR, _, _⟩ := hx.read
    go_wp2_with fail
    refine (sMulMatrix _ _ (adjM m) m _ _ (adjM_sz m) hz _ hxR (h.below hb01)).mono ?_
    rintro e w2 ⟨y, rfl, hy, hb2⟩
    have hb3 : Below w.heap.size w w2 := hb01.trans (hb2.mono hs01)
    have hs3 := hb3.size
    obtain ⟨yo, yc, rfl, hyR, _, _⟩ := hy.read
    by_cases hd : (mulM (adjM m) m).2 = true
    · have hfin := Lib.hid (unitary_yes hd)
      have hsz := mulM_sz (adjM m) m
      have hm0 := okM_pos hok
      obtain ⟨b, o, rfl, hlt, ro, rc, hcell, hR⟩ := (h.below hb3) 0 hm0
      have hml : m[0].length ≤ 9223372036854775807 := by have := (okM_rows hok (List.getElem_mem hm0)).1; have := okM_len hok; omega
      have hhead : m.headD [] = m[0] := by
        cases m with
        | nil => exact absurd hm0 (Nat.lt_irrefl _)
        | cons r rs => rfl
      have HH := Lib.hid hhead
      clear hhead h hx hy hxR
      generalize (mulM (adjM m) m).1 = p at *
      rw [Nat.add_zero] at hcell
      go_wp2_with fail
      refine (sQubitCount _ _ _ hml _).mono ?_
      rintro e _ ⟨rfl, rfl⟩
      go_wp2_with fail
      refine (sIdentityMatrix _ _).mono ?_
      rintro e w4 ⟨z, rfl, hz4, hb4⟩
      have hs4 := hb4.size
      obtain ⟨zo, zc, rfl, hzR, _, _⟩ := hz4.read
      go_wp2_with fail
      refine (sEqualMatrix _ _ p (identM (qc m[0].length)) _ _ hsz (identM_sz _) _ (hyR.below hb4) hzR).mono ?_
      rintro e w5 ⟨rfl, hb5⟩
      have hs5 := hb5.size
      go_wp2
      go_ret
      exact ⟨by rw [hfin.out, HH.out]; rfl, by (repeat (first | with_reducible exact Below.refl _ _ | with_reducible assumption | with_reducible refine Below.setCell ?_ (by first | omega | (simp; done) | (simp; omega)) _ | with_reducible refine Below.alloc ?_ (by first | omega | (simp; done) | (simp; omega)) _ | with_reducible refine Below.drew ?_ | with_reducible refine belowDrewN ?_ _ | with_reducible refine Below.trans ?_ (Below.mono (by assumption) (by first | omega | (simp; done) | (simp; omega)))))⟩
    · have hfin := Lib.hid (unitary_no hd)
      go_wp2
      go_ret
      exact ⟨by rw [hfin.out]; rfl, by (repeat (first | with_reducible exact Below.refl _ _ | with_reducible assumption | with_reducible refine Below.setCell ?_ (by first | omega | (simp; done) | (simp; omega)) _ | with_reducible refine Below.alloc ?_ (by first | omega | (simp; done) | (simp; omega)) _ | with_reducible refine Below.drew ?_ | with_reducible refine belowDrewN ?_ _ | with_reducible refine Below.trans ?_ (Below.mono (by assumption) (by first | omega | (simp; done) | (simp; omega)))))⟩
  · have hfin := Lib.hid (unitary_no (m := m) (fun h => hok (mulM_ok h).2.1))
    go_enter Try.func41, Try.ntmps41
    go_wp2_with fail
    refine (sIsValidMatrix _ _ _ hz _ h).mono ?_
    rintro e w0 ⟨rfl, hb0⟩
    go_wp2
    go_ret
    exact ⟨by rw [hfin.out]; rfl, by (repeat (first | with_reducible exact Below.refl _ _ | with_reducible assumption | with_reducible refine Below.setCell ?_ (by first | omega | (simp; done) | (simp; omega)) _ | with_reducible refine Below.alloc ?_ (by first | omega | (simp; done) | (simp; omega)) _ | with_reducible refine Below.drew ?_ | with_reducible refine belowDrewN ?_ _ | with_reducible refine Below.trans ?_ (Below.mono (by assumption) (by first | omega | (simp; done) | (simp; omega)))))⟩

end Go.Proofs.Yteckhaafdojoeaa
