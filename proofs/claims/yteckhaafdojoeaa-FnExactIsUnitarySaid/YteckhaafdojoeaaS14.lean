/- The reference's looks at states and matrices. -/
import Derived.Test.YteckhaafdojoeaaS13
namespace Go.Proofs.Yteckhaafdojoeaa
open Go.RowKit

theorem sQubitCount (ao : Option Addr) (n cap : Nat) (hn : n ≤ 9223372036854775807) (w : World) :
    Calls Try.prog 70 #[.slice ao n cap] w fun e w' => e = .returned (.int .i64 (qc n)) ∧ w = w' := by
  by_cases h2 : n = 2
  · subst h2
    go_enter Try.func70, Try.ntmps70
    go_wp2
    refine wp_loop_rounds 6 ?_
    iterate 6 (try (rw [rounds_succ]; go_wp2))
    go_ret
    exact ⟨rfl, rfl⟩
  · skip
    by_cases h4 : n = 4
    · subst h4
      go_enter Try.func70, Try.ntmps70
      go_wp2
      refine wp_loop_rounds 6 ?_
      iterate 6 (try (rw [rounds_succ]; go_wp2))
      go_ret
      exact ⟨rfl, rfl⟩
    · skip
      by_cases h8 : n = 8
      · subst h8
        go_enter Try.func70, Try.ntmps70
        go_wp2
        refine wp_loop_rounds 6 ?_
        iterate 6 (try (rw [rounds_succ]; go_wp2))
        go_ret
        exact ⟨rfl, rfl⟩
      · skip
        by_cases h16 : n = 16
        · subst h16
          go_enter Try.func70, Try.ntmps70
          go_wp2
          refine wp_loop_rounds 6 ?_
          iterate 6 (try (rw [rounds_succ]; go_wp2))
          go_ret
          exact ⟨rfl, rfl⟩
        · skip
          have hz := qc_of h2 h4 h8 h16
          have g2 : ((n : Int) == 2) = false := by rw [beq_eq_false_iff_ne]; omega
          have g4 : ((n : Int) == 4) = false := by rw [beq_eq_false_iff_ne]; omega
          have g8 : ((n : Int) == 8) = false := by rw [beq_eq_false_iff_ne]; omega
          have g16 : ((n : Int) == 16) = false := by rw [beq_eq_false_iff_ne]; omega
          rw [hz]
          go_enter Try.func70, Try.ntmps70
          go_wp2
          refine wp_loop_rounds 6 ?_
          iterate 6 (try (rw [rounds_succ]; go_wp2))
          go_ret
          exact ⟨rfl, rfl⟩


theorem okS_all {l : List DO} (h : ∀ i (hi : i < l.length), l[i].ok = true) : okS l = decide (0 < qc l.length) := by
  rw [okS]
  have : l.all DO.ok = true := by
    rw [List.all_eq_true]
    intro x hx
    obtain ⟨i, hi, rfl⟩ := List.getElem_of_mem hx
    exact h i hi
  rw [this, Bool.and_true]
  by_cases h0 : qc l.length = 0
  · simp [h0]
  · rw [decide_eq_true (by omega)]
    simpa using h0

set_option maxHeartbeats 2000000 in
theorem sIsValidState (ao : Option Addr) (l : List DO) (cap : Nat) (hn : l.length ≤ 1000000000) (w : World) (h : StR w ao l) :
    Calls Try.prog 119 #[.slice ao l.length cap] w fun e w' => e = .returned (.bool (okS l)) ∧ Below w.heap.size w w' := by
  go_enter Try.func119, Try.ntmps119
  go_wp2
  go_loopw [3] (fun v wr => ∃ j : Nat, v = .int .i64 j ∧ j ≤ l.length ∧ Hid (∀ i (hi : i < l.length), i < j → l[i].ok = true) ∧ Below w.heap.size w wr) (fun v _ => l.length - (intOf v).toNat)
  case atStart => exact ⟨0, rfl, Nat.zero_le _, fun _ _ h => absurd h (Nat.not_lt_zero _), Below.refl _ _⟩
  case round =>
    obtain ⟨j, rfl, h0, hall, hb0⟩ := hrel
    by_cases hj : j < l.length
    · obtain ⟨b, o, rfl, hlt, hD⟩ := (h.below hb0) j hj
      obtain ⟨d0, d1, d2, d3, d4⟩ := hD
      have hs0 := hb0.size
      by_cases hx : l[j].ok = true
      · go_wp2_with (go_at_call 164; refine (sIsValidD' l[j] _).mono ?_; rintro e w1 ⟨rfl, hb⟩)
        go_roundw
        case rel => exact ⟨j + 1, by go_num, by omega, all_step hall.out hx, by (repeat (first | with_reducible exact Below.refl _ _ | with_reducible assumption | with_reducible refine Below.setCell ?_ (by first | omega | (simp; done) | (simp; omega)) _ | with_reducible refine Below.alloc ?_ (by first | omega | (simp; done) | (simp; omega)) _ | with_reducible refine Below.drew ?_ | with_reducible refine belowDrewN ?_ _ | with_reducible refine Below.trans ?_ (Below.mono (by assumption) (by first | omega | (simp; done) | (simp; omega)))))⟩
        case measure => simp [intOf]; omega
      · have hfin : okS l = false := okS_no hj hx
        go_wp2_with (go_at_call 164; refine (sIsValidD' l[j] _).mono ?_; rintro e w1 ⟨rfl, hb⟩)
        go_ret
        exact ⟨by rw [hfin]; rfl, by (repeat (first | with_reducible exact Below.refl _ _ | with_reducible assumption | with_reducible refine Below.setCell ?_ (by first | omega | (simp; done) | (simp; omega)) _ | with_reducible refine Below.alloc ?_ (by first | omega | (simp; done) | (simp; omega)) _ | with_reducible refine Below.drew ?_ | with_reducible refine belowDrewN ?_ _ | with_reducible refine Below.trans ?_ (Below.mono (by assumption) (by first | omega | (simp; done) | (simp; omega)))))⟩
    · have hfin := Lib.hid (okS_all (l := l) (by intro i hi; exact hall.out i hi (by omega)))
      go_wp2_with (go_at_call 70; refine (sQubitCount _ _ _ (by omega) _).mono ?_; rintro e w1 ⟨rfl, rfl⟩)
      go_ret
      exact ⟨by rw [hfin.out]; simp, by (repeat (first | with_reducible exact Below.refl _ _ | with_reducible assumption | with_reducible refine Below.setCell ?_ (by first | omega | (simp; done) | (simp; omega)) _ | with_reducible refine Below.alloc ?_ (by first | omega | (simp; done) | (simp; omega)) _ | with_reducible refine Below.drew ?_ | with_reducible refine belowDrewN ?_ _ | with_reducible refine Below.trans ?_ (Below.mono (by assumption) (by first | omega | (simp; done) | (simp; omega)))))⟩

set_option maxHeartbeats 4000000 in
theorem sIsValidMatrix (ao : Option Addr) (m : List (List DO)) (cap : Nat) (hz : SzM m) (w : World) (h : MtR w ao m) :
    Calls Try.prog 77 #[.slice ao m.length cap] w fun e w' => e = .returned (.bool (okM m)) ∧ Below w.heap.size w w' := by
  obtain ⟨hz1, hz2⟩ := hz
  go_enter Try.func77, Try.ntmps77
  go_wp2
  go_loopw [3] (fun x wr => ∃ j : Nat, x = .int .i64 j ∧ j ≤ m.length ∧ Hid (∀ i (hi : i < m.length), i < j → m[i].length = m.length ∧ okS m[i] = true) ∧ Below w.heap.size w wr) (fun x _ => m.length - (intOf x).toNat)
  case atStart => exact ⟨0, rfl, Nat.zero_le _, fun _ _ h => absurd h (Nat.not_lt_zero _), by (repeat (first | with_reducible exact Below.refl _ _ | with_reducible assumption | with_reducible refine Below.setCell ?_ (by first | omega | (simp; done) | (simp; omega)) _ | with_reducible refine Below.alloc ?_ (by first | omega | (simp; done) | (simp; omega)) _ | with_reducible refine Below.drew ?_ | with_reducible refine belowDrewN ?_ _ | with_reducible refine Below.trans ?_ (Below.mono (by assumption) (by first | omega | (simp; done) | (simp; omega)))))⟩
  case round =>
    obtain ⟨j, rfl, h0, hinv, hb0⟩ := hrel
    have hs0 := hb0.size
    by_cases hj : j < m.length
    · obtain ⟨b, o, rfl, hlt, ro, rc, hcell, hR⟩ := (h.below hb0) j hj
      have hz3 : m[j].length ≤ 1000000000 := by have := hz2 m[j] (List.getElem_mem _); omega
      clear h
      by_cases hl : m[j].length = m.length
      · have hl' : ((m[j].length : Int) != (m.length : Int)) = false := by simp [hl]
        have HL := Lib.hid hl
        clear hl
        by_cases hx : okS m[j] = true
        · go_wp2_with (go_at_call 119; refine (sIsValidState _ _ _ hz3 _ (hR.below (by (repeat (first | with_reducible exact Below.refl _ _ | with_reducible assumption | with_reducible refine Below.setCell ?_ (by first | omega | (simp; done) | (simp; omega)) _ | with_reducible refine Below.alloc ?_ (by first | omega | (simp; done) | (simp; omega)) _ | with_reducible refine Below.drew ?_ | with_reducible refine belowDrewN ?_ _ | with_reducible refine Below.trans ?_ (Below.mono (by assumption) (by first | omega | (simp; done) | (simp; omega)))))))).mono ?_; rintro e w1 ⟨rfl, hb⟩)
          go_roundw
          case rel => exact ⟨j + 1, by go_num, by omega, rows_step hinv.out ⟨HL.out, hx⟩, by (repeat (first | with_reducible exact Below.refl _ _ | with_reducible assumption | with_reducible refine Below.setCell ?_ (by first | omega | (simp; done) | (simp; omega)) _ | with_reducible refine Below.alloc ?_ (by first | omega | (simp; done) | (simp; omega)) _ | with_reducible refine Below.drew ?_ | with_reducible refine belowDrewN ?_ _ | with_reducible refine Below.trans ?_ (Below.mono (by assumption) (by first | omega | (simp; done) | (simp; omega)))))⟩
          case measure => simp [intOf]; omega
        · have hfin := Lib.hid (okM_no hj (fun h => hx h.2))
          go_wp2_with (go_at_call 119; refine (sIsValidState _ _ _ hz3 _ (hR.below (by (repeat (first | with_reducible exact Below.refl _ _ | with_reducible assumption | with_reducible refine Below.setCell ?_ (by first | omega | (simp; done) | (simp; omega)) _ | with_reducible refine Below.alloc ?_ (by first | omega | (simp; done) | (simp; omega)) _ | with_reducible refine Below.drew ?_ | with_reducible refine belowDrewN ?_ _ | with_reducible refine Below.trans ?_ (Below.mono (by assumption) (by first | omega | (simp; done) | (simp; omega)))))))).mono ?_; rintro e w1 ⟨rfl, hb⟩)
          go_ret
          exact ⟨by rw [hfin.out]; rfl, by (repeat (first | with_reducible exact Below.refl _ _ | with_reducible assumption | with_reducible refine Below.setCell ?_ (by first | omega | (simp; done) | (simp; omega)) _ | with_reducible refine Below.alloc ?_ (by first | omega | (simp; done) | (simp; omega)) _ | with_reducible refine Below.drew ?_ | with_reducible refine belowDrewN ?_ _ | with_reducible refine Below.trans ?_ (Below.mono (by assumption) (by first | omega | (simp; done) | (simp; omega)))))⟩
      · have hl' : ((m[j].length : Int) != (m.length : Int)) = true := by simp; omega
        have hfin := Lib.hid (okM_no hj (fun h => hl h.1))
        clear hl
        go_wp2
        go_ret
        exact ⟨by rw [hfin.out]; rfl, by (repeat (first | with_reducible exact Below.refl _ _ | with_reducible assumption | with_reducible refine Below.setCell ?_ (by first | omega | (simp; done) | (simp; omega)) _ | with_reducible refine Below.alloc ?_ (by first | omega | (simp; done) | (simp; omega)) _ | with_reducible refine Below.drew ?_ | with_reducible refine belowDrewN ?_ _ | with_reducible refine Below.trans ?_ (Below.mono (by assumption) (by first | omega | (simp; done) | (simp; omega)))))⟩
    · have hfin := Lib.hid (okM_yes (m := m) (fun i hi => hinv.out i hi (by omega)))
      go_wp2
      go_ret
      exact ⟨by rw [hfin.out]; simp, by (repeat (first | with_reducible exact Below.refl _ _ | with_reducible assumption | with_reducible refine Below.setCell ?_ (by first | omega | (simp; done) | (simp; omega)) _ | with_reducible refine Below.alloc ?_ (by first | omega | (simp; done) | (simp; omega)) _ | with_reducible refine Below.drew ?_ | with_reducible refine belowDrewN ?_ _ | with_reducible refine Below.trans ?_ (Below.mono (by assumption) (by first | omega | (simp; done) | (simp; omega)))))⟩


end Go.Proofs.Yteckhaafdojoeaa
