/- Equality of states: impl.same, spec.EqualState. -/
import Derived.Test.YteckhaafdojoeaaS2
import Derived.BigQuiet
import Derived.Laws.StructEq
namespace Go.Proofs.Yteckhaafdojoeaa
open Go.RowKit BigFrame

theorem DO.eq_of {x y : DO} (h0 : x.n.a = y.n.a) (h1 : x.n.b = y.n.b) (h2 : x.n.c = y.n.c) (h3 : x.n.d = y.n.d) (h4 : x.e = y.e) : x = y := by
  obtain ⟨⟨a, b, c, d⟩, k⟩ := x
  obtain ⟨⟨a', b', c', d'⟩, k'⟩ := y
  simp_all
theorem neqIf {α : Type} (x y : DO) (A B : α) : (if x.n.a = y.n.a then if x.n.b = y.n.b then if x.n.c = y.n.c then if x.n.d = y.n.d then if x.e = y.e then A else B else B else B else B else B) = if x = y then A else B := by
  by_cases h : x = y
  · subst h; simp
  · rw [if_neg h]
    repeat' split
    all_goals first | rfl | exact absurd (DO.eq_of ‹_› ‹_› ‹_› ‹_› ‹_›) h
theorem take_eq_succ {α : Type} {u v : List α} {j : Nat} (hj : j < u.length) (hv : j < v.length) (h : u.take j = v.take j) (e : u[j] = v[j]) : u.take (j + 1) = v.take (j + 1) := by
  rw [List.take_succ_eq_append_getElem hj, List.take_succ_eq_append_getElem hv, h, e]
theorem eq_of_take {α : Type} {u v : List α} {j : Nat} (hj : ¬ j < u.length) (hl : u.length = v.length) (h : u.take j = v.take j) : u = v := by
  rwa [List.take_of_length_le (by omega), List.take_of_length_le (by omega)] at h

set_option maxHeartbeats 4000000 in
theorem iSame (ao bo : Option Addr) (u v : List DO) (cu cv : Nat) (hn : u.length ≤ 1000000000) (hn' : v.length ≤ 1000000000) (w : World) (hu : StR w ao u) (hv : StR w bo v) :
    Calls Try.prog 138 #[.slice ao u.length cu, .slice bo v.length cv] w fun e w' => e = .returned (.bool (decide (u = v))) ∧ Below w.heap.size w w' := by
  by_cases hl : u.length = v.length
  · have hl' : ((u.length : Int) != (v.length : Int)) = false := by simp [hl]
    have HL := Lib.hid hl
    clear hl
    go_enter Try.func138, Try.ntmps138
    go_wp2
    go_loopw [13] (fun x wr => ∃ j : Nat, x = .int .i64 j ∧ j ≤ u.length ∧ Hid (u.take j = v.take j) ∧ Below w.heap.size w wr) (fun x _ => u.length - (intOf x).toNat)
    case atStart => exact ⟨0, rfl, Nat.zero_le _, rfl, by (repeat (first | with_reducible exact Below.refl _ _ | with_reducible assumption | with_reducible refine Below.setCell ?_ (by first | omega | (simp; done) | (simp; omega)) _ | with_reducible refine Below.alloc ?_ (by first | omega | (simp; done) | (simp; omega)) _ | with_reducible refine Below.drew ?_ | with_reducible refine belowDrewN ?_ _ | with_reducible refine Below.trans ?_ (Below.mono (by assumption) (by first | omega | (simp; done) | (simp; omega)))))⟩
    case round =>
      obtain ⟨j, rfl, h0, hinv, hb0⟩ := hrel
      have hs0 := hb0.size
      by_cases hj : j < u.length
      · have hjv : j < v.length := by rw [← HL.out]; exact hj
        obtain ⟨b, o, rfl, hlt, hD⟩ := (hu.below hb0) j hj
        obtain ⟨d0, d1, d2, d3, d4⟩ := hD
        obtain ⟨b', o', rfl, hlt', hD'⟩ := (hv.below hb0) j hjv
        obtain ⟨g0, g1, g2, g3, g4⟩ := hD'
        by_cases he : u[j] = v[j]
        · have hnext := Lib.hid (take_eq_succ hj hjv hinv.out he)
          have HE := Lib.hid he
          clear he
          go_wp2
          refine wp_region_quiet_lit (by kernel_rfl) (by kernel_rfl) ?_
          repeat (go_big_quiet_step (fail))
          refine wpQuiet_step (fun K hK => ?_)
          go_simp
          refine ⟨.bool false, fun a => by rw [neqIf, if_pos HE.out]; exact ⟨rfl, rfl⟩, hK _ ?_⟩
          clear hK K
          refine wpQuiet_nil ?_
          intro _ hw'
          obtain ⟨nq, rfl⟩ := hw'
          go_wp2
          go_roundw
          case rel => exact ⟨j + 1, by go_num, by omega, hnext.out, by (repeat (first | with_reducible exact Below.refl _ _ | with_reducible assumption | with_reducible refine Below.setCell ?_ (by first | omega | (simp; done) | (simp; omega)) _ | with_reducible refine Below.alloc ?_ (by first | omega | (simp; done) | (simp; omega)) _ | with_reducible refine Below.drew ?_ | with_reducible refine belowDrewN ?_ _ | with_reducible refine Below.trans ?_ (Below.mono (by assumption) (by first | omega | (simp; done) | (simp; omega)))))⟩
          case measure => simp [intOf]; omega
        · have hfin : decide (u = v) = false := by
            rw [decide_eq_false_iff_not]
            intro e
            subst e
            exact he rfl
          have HE := Lib.hid he
          clear he
          go_wp2
          refine wp_region_quiet_lit (by kernel_rfl) (by kernel_rfl) ?_
          repeat (go_big_quiet_step (fail))
          refine wpQuiet_step (fun K hK => ?_)
          go_simp
          refine ⟨.bool true, fun a => by rw [neqIf, if_neg HE.out]; exact ⟨rfl, rfl⟩, hK _ ?_⟩
          clear hK K
          refine wpQuiet_nil ?_
          intro _ hw'
          obtain ⟨nq, rfl⟩ := hw'
          go_wp2
          go_ret
          exact ⟨by rw [hfin]; rfl, by (repeat (first | with_reducible exact Below.refl _ _ | with_reducible assumption | with_reducible refine Below.setCell ?_ (by first | omega | (simp; done) | (simp; omega)) _ | with_reducible refine Below.alloc ?_ (by first | omega | (simp; done) | (simp; omega)) _ | with_reducible refine Below.drew ?_ | with_reducible refine belowDrewN ?_ _ | with_reducible refine Below.trans ?_ (Below.mono (by assumption) (by first | omega | (simp; done) | (simp; omega)))))⟩
      · have hfin : decide (u = v) = true := by
          rw [decide_eq_true_iff]
          exact eq_of_take hj HL.out hinv.out
        go_wp2
        go_ret
        exact ⟨by rw [hfin]; rfl, by (repeat (first | with_reducible exact Below.refl _ _ | with_reducible assumption | with_reducible refine Below.setCell ?_ (by first | omega | (simp; done) | (simp; omega)) _ | with_reducible refine Below.alloc ?_ (by first | omega | (simp; done) | (simp; omega)) _ | with_reducible refine Below.drew ?_ | with_reducible refine belowDrewN ?_ _ | with_reducible refine Below.trans ?_ (Below.mono (by assumption) (by first | omega | (simp; done) | (simp; omega)))))⟩
  · have hl' : ((u.length : Int) != (v.length : Int)) = true := by simp; omega
    have hfin : decide (u = v) = false := by
      rw [decide_eq_false_iff_not]
      intro e
      exact hl (by rw [e])
    go_enter Try.func138, Try.ntmps138
    go_wp2
    go_ret
    exact ⟨by rw [hfin]; rfl, by (repeat (first | with_reducible exact Below.refl _ _ | with_reducible assumption | with_reducible refine Below.setCell ?_ (by first | omega | (simp; done) | (simp; omega)) _ | with_reducible refine Below.alloc ?_ (by first | omega | (simp; done) | (simp; omega)) _ | with_reducible refine Below.drew ?_ | with_reducible refine belowDrewN ?_ _ | with_reducible refine Below.trans ?_ (Below.mono (by assumption) (by first | omega | (simp; done) | (simp; omega)))))⟩

set_option maxHeartbeats 4000000 in
theorem sEqualState (ao bo : Option Addr) (u v : List DO) (cu cv : Nat) (hn : u.length ≤ 1000000000) (hn' : v.length ≤ 1000000000) (w : World) (hu : StR w ao u) (hv : StR w bo v) :
    Calls Try.prog 66 #[.slice ao u.length cu, .slice bo v.length cv] w fun e w' => e = .returned (.bool (decide (u = v))) ∧ Below w.heap.size w w' := by
  by_cases hl : u.length = v.length
  · have hl' : ((u.length : Int) != (v.length : Int)) = false := by simp [hl]
    have HL := Lib.hid hl
    clear hl
    go_enter Try.func66, Try.ntmps66
    go_wp2
    go_loopw [5] (fun x wr => ∃ j : Nat, x = .int .i64 j ∧ j ≤ u.length ∧ Hid (u.take j = v.take j) ∧ Below w.heap.size w wr) (fun x _ => u.length - (intOf x).toNat)
    case atStart => exact ⟨0, rfl, Nat.zero_le _, rfl, by (repeat (first | with_reducible exact Below.refl _ _ | with_reducible assumption | with_reducible refine Below.setCell ?_ (by first | omega | (simp; done) | (simp; omega)) _ | with_reducible refine Below.alloc ?_ (by first | omega | (simp; done) | (simp; omega)) _ | with_reducible refine Below.drew ?_ | with_reducible refine belowDrewN ?_ _ | with_reducible refine Below.trans ?_ (Below.mono (by assumption) (by first | omega | (simp; done) | (simp; omega)))))⟩
    case round =>
      obtain ⟨j, rfl, h0, hinv, hb0⟩ := hrel
      have hs0 := hb0.size
      by_cases hj : j < u.length
      · have hjv : j < v.length := by rw [← HL.out]; exact hj
        obtain ⟨b, o, rfl, hlt, hD⟩ := (hu.below hb0) j hj
        obtain ⟨d0, d1, d2, d3, d4⟩ := hD
        obtain ⟨b', o', rfl, hlt', hD'⟩ := (hv.below hb0) j hjv
        obtain ⟨g0, g1, g2, g3, g4⟩ := hD'
        by_cases he : u[j] = v[j]
        · have hnext := Lib.hid (take_eq_succ hj hjv hinv.out he)
          have HE := Lib.hid he
          clear he
          go_wp2
          refine wp_region_quiet_lit (by kernel_rfl) (by kernel_rfl) ?_
          repeat (go_big_quiet_step (fail))
          refine wpQuiet_step (fun K hK => ?_)
          go_simp
          refine ⟨.bool false, fun a => by rw [neqIf, if_pos HE.out]; exact ⟨rfl, rfl⟩, hK _ ?_⟩
          clear hK K
          refine wpQuiet_nil ?_
          intro _ hw'
          obtain ⟨nq, rfl⟩ := hw'
          go_wp2
          go_roundw
          case rel => exact ⟨j + 1, by go_num, by omega, hnext.out, by (repeat (first | with_reducible exact Below.refl _ _ | with_reducible assumption | with_reducible refine Below.setCell ?_ (by first | omega | (simp; done) | (simp; omega)) _ | with_reducible refine Below.alloc ?_ (by first | omega | (simp; done) | (simp; omega)) _ | with_reducible refine Below.drew ?_ | with_reducible refine belowDrewN ?_ _ | with_reducible refine Below.trans ?_ (Below.mono (by assumption) (by first | omega | (simp; done) | (simp; omega)))))⟩
          case measure => simp [intOf]; omega
        · have hfin : decide (u = v) = false := by
            rw [decide_eq_false_iff_not]
            intro e
            subst e
            exact he rfl
          have HE := Lib.hid he
          clear he
          go_wp2
          refine wp_region_quiet_lit (by kernel_rfl) (by kernel_rfl) ?_
          repeat (go_big_quiet_step (fail))
          refine wpQuiet_step (fun K hK => ?_)
          go_simp
          refine ⟨.bool true, fun a => by rw [neqIf, if_neg HE.out]; exact ⟨rfl, rfl⟩, hK _ ?_⟩
          clear hK K
          refine wpQuiet_nil ?_
          intro _ hw'
          obtain ⟨nq, rfl⟩ := hw'
          go_wp2
          go_ret
          exact ⟨by rw [hfin]; rfl, by (repeat (first | with_reducible exact Below.refl _ _ | with_reducible assumption | with_reducible refine Below.setCell ?_ (by first | omega | (simp; done) | (simp; omega)) _ | with_reducible refine Below.alloc ?_ (by first | omega | (simp; done) | (simp; omega)) _ | with_reducible refine Below.drew ?_ | with_reducible refine belowDrewN ?_ _ | with_reducible refine Below.trans ?_ (Below.mono (by assumption) (by first | omega | (simp; done) | (simp; omega)))))⟩
      · have hfin : decide (u = v) = true := by
          rw [decide_eq_true_iff]
          exact eq_of_take hj HL.out hinv.out
        go_wp2
        go_ret
        exact ⟨by rw [hfin]; rfl, by (repeat (first | with_reducible exact Below.refl _ _ | with_reducible assumption | with_reducible refine Below.setCell ?_ (by first | omega | (simp; done) | (simp; omega)) _ | with_reducible refine Below.alloc ?_ (by first | omega | (simp; done) | (simp; omega)) _ | with_reducible refine Below.drew ?_ | with_reducible refine belowDrewN ?_ _ | with_reducible refine Below.trans ?_ (Below.mono (by assumption) (by first | omega | (simp; done) | (simp; omega)))))⟩
  · have hl' : ((u.length : Int) != (v.length : Int)) = true := by simp; omega
    have hfin : decide (u = v) = false := by
      rw [decide_eq_false_iff_not]
      intro e
      exact hl (by rw [e])
    go_enter Try.func66, Try.ntmps66
    go_wp2
    go_ret
    exact ⟨by rw [hfin]; rfl, by (repeat (first | with_reducible exact Below.refl _ _ | with_reducible assumption | with_reducible refine Below.setCell ?_ (by first | omega | (simp; done) | (simp; omega)) _ | with_reducible refine Below.alloc ?_ (by first | omega | (simp; done) | (simp; omega)) _ | with_reducible refine Below.drew ?_ | with_reducible refine belowDrewN ?_ _ | with_reducible refine Below.trans ?_ (Below.mono (by assumption) (by first | omega | (simp; done) | (simp; omega)))))⟩

end Go.Proofs.Yteckhaafdojoeaa
