/- States in memory: what it means that a slice value reads as a list of numbers, and the walks that only look. -/
import Derived.Test.YteckhaafdojoeaaW2
import Derived.Test.YteckhaafdojoeaaM3
import Derived.Test.YteckhaafdojoeaaN
import Derived.Test.YteckhaafdojoeaaO
namespace Go.Proofs.Yteckhaafdojoeaa
open Go.RowKit

/-- The five cells of a number at b, o. -/
def DAt (w : World) (b o : Nat) (x : DO) : Prop :=
  w.cell? ⟨b, o, none⟩ = some (.int .i64 x.n.a) ∧ w.cell? ⟨b, o + 1, none⟩ = some (.int .i64 x.n.b) ∧ w.cell? ⟨b, o + 2, none⟩ = some (.int .i64 x.n.c) ∧ w.cell? ⟨b, o + 3, none⟩ = some (.int .i64 x.n.d) ∧ w.cell? ⟨b, o + 4, none⟩ = some (.int .i64 x.e)
/-- The slice (ao, n) reads as l. -/
def StR (w : World) (ao : Option Addr) (l : List DO) : Prop :=
  ∀ i (h : i < l.length), ∃ b o, ao = some ⟨b, o, none⟩ ∧ b < w.heap.size ∧ DAt w b (o + i * 5) l[i]

theorem DAt.below {B : Nat} {w w' : World} {b o : Nat} {x : DO} (h : DAt w b o x) (hb : Below B w w') (hB : b < B) : DAt w' b o x := by
  obtain ⟨h0, h1, h2, h3, h4⟩ := h
  have e : ∀ o, w'.cell? ⟨b, o, none⟩ = w.cell? ⟨b, o, none⟩ := fun o => hb.cell (p := ⟨b, o, none⟩) hB
  exact ⟨by rw [e, h0], by rw [e, h1], by rw [e, h2], by rw [e, h3], by rw [e, h4]⟩
theorem StR.below {w w' : World} {ao : Option Addr} {l : List DO} (h : StR w ao l) (hb : Below w.heap.size w w') : StR w' ao l := fun i hi => by
  obtain ⟨b, o, h1, h2, h3⟩ := h i hi
  exact ⟨b, o, h1, Nat.lt_of_lt_of_le h2 hb.size, h3.below hb h2⟩

/-- The number of qubits of a state with n amplitudes; 0 where there is none. -/
def qc (n : Nat) : Nat := if n = 2 then 1 else if n = 4 then 2 else if n = 8 then 3 else if n = 16 then 4 else 0
def okS (l : List DO) : Bool := qc l.length != 0 && l.all DO.ok

theorem qc_of {n : Nat} (h2 : ¬ n = 2) (h4 : ¬ n = 4) (h8 : ¬ n = 8) (h16 : ¬ n = 16) : qc n = 0 := by simp [qc, *]

theorem all_step {l : List DO} {j : Nat} (hj : ∀ i (hi : i < l.length), i < j → l[i].ok = true) {hl : j < l.length} (hx : l[j].ok = true) : ∀ i (hi : i < l.length), i < j + 1 → l[i].ok = true := fun i hi hij => by
  by_cases e : i = j
  · subst e; exact hx
  · exact hj i hi (by omega)
theorem okS_no {l : List DO} {j : Nat} (hl : j < l.length) (hx : ¬ l[j].ok = true) : okS l = false := by
  rw [okS, Bool.and_eq_false_iff]
  right
  rw [List.all_eq_false]
  exact ⟨l[j], List.getElem_mem _, hx⟩
theorem okS_yes {l : List DO} (hq : ¬ qc l.length = 0) (h : ∀ i (hi : i < l.length), l[i].ok = true) : okS l = true := by
  rw [okS, Bool.and_eq_true]
  refine ⟨by simpa using hq, ?_⟩
  rw [List.all_eq_true]
  intro x hx
  obtain ⟨i, hi, rfl⟩ := List.getElem_of_mem hx
  exact h i hi
theorem iQubitCount (ao : Option Addr) (n cap : Nat) (hn : n ≤ 9223372036854775807) (w : World) :
    Calls Try.prog 106 #[.slice ao n cap] w fun e w' => e = .returned (.int .i64 (qc n)) ∧ w = w' := by
  by_cases h2 : n = 2
  · subst h2
    go_enter Try.func106, Try.ntmps106
    go_wp2
    refine wp_loop_rounds 6 ?_
    iterate 6 (try (rw [rounds_succ]; go_wp2))
    go_ret
    exact ⟨rfl, rfl⟩
  · skip
    by_cases h4 : n = 4
    · subst h4
      go_enter Try.func106, Try.ntmps106
      go_wp2
      refine wp_loop_rounds 6 ?_
      iterate 6 (try (rw [rounds_succ]; go_wp2))
      go_ret
      exact ⟨rfl, rfl⟩
    · skip
      by_cases h8 : n = 8
      · subst h8
        go_enter Try.func106, Try.ntmps106
        go_wp2
        refine wp_loop_rounds 6 ?_
        iterate 6 (try (rw [rounds_succ]; go_wp2))
        go_ret
        exact ⟨rfl, rfl⟩
      · skip
        by_cases h16 : n = 16
        · subst h16
          go_enter Try.func106, Try.ntmps106
          go_wp2
          refine wp_loop_rounds 6 ?_
          iterate 6 (try (rw [rounds_succ]; go_wp2))
          go_ret
          exact ⟨rfl, rfl⟩
        · skip
          have hz := qc_of h2 h4 h8 h16
          have g2 : ((n : Int) == 2) = false := by rw [beq_eq_false_iff_ne]; omega
          have g4 : ((n : Int) == 4) = false := by rw [beq_eq_false_iff_ne]; omega
          have g8 : ((n : Int) == 8) = false := by rw [beq_eq_false_iff_ne]; omega
          have g16 : ((n : Int) == 16) = false := by rw [beq_eq_false_iff_ne]; omega
          rw [hz]
          go_enter Try.func106, Try.ntmps106
          go_wp2
          refine wp_loop_rounds 6 ?_
          iterate 6 (try (rw [rounds_succ]; go_wp2))
          go_ret
          exact ⟨rfl, rfl⟩

set_option maxHeartbeats 2000000 in
theorem iIsValidState (ao : Option Addr) (l : List DO) (cap : Nat) (hn : l.length ≤ 1000000000) (w : World) (h : StR w ao l) :
    Calls Try.prog 124 #[.slice ao l.length cap] w fun e w' => e = .returned (.bool (okS l)) ∧ Below w.heap.size w w' := by
  by_cases hq : qc l.length = 0
  · have hq' : ((qc l.length : Int) == 0) = true := by simp [hq]
    have hfin : okS l = false := by simp [okS, hq]
    go_enter Try.func124, Try.ntmps124
    go_wp2_with (go_at_call 106; refine (iQubitCount _ _ _ (by omega) _).mono ?_; rintro e w1 ⟨rfl, rfl⟩)
    go_ret
    exact ⟨by rw [hfin]; rfl, Below.refl _ _⟩
  · have hq' : ((qc l.length : Int) == 0) = false := by simpa using hq
    go_enter Try.func124, Try.ntmps124
    go_wp2_with (go_at_call 106; refine (iQubitCount _ _ _ (by omega) _).mono ?_; rintro e w1 ⟨rfl, rfl⟩)
    go_loopw [10] (fun v wr => ∃ j : Nat, v = .int .i64 j ∧ j ≤ l.length ∧ Hid (∀ i (hi : i < l.length), i < j → l[i].ok = true) ∧ Below w.heap.size w wr) (fun v _ => l.length - (intOf v).toNat)
    case atStart => exact ⟨0, rfl, Nat.zero_le _, fun _ _ h => absurd h (Nat.not_lt_zero _), Below.refl _ _⟩
    case round =>
      obtain ⟨j, rfl, h0, hall, hb0⟩ := hrel
      by_cases hj : j < l.length
      · obtain ⟨b, o, rfl, hlt, hD⟩ := (h.below hb0) j hj
        obtain ⟨d0, d1, d2, d3, d4⟩ := hD
        have hs0 := hb0.size
        by_cases hx : l[j].ok = true
        · go_wp2_with (go_at_call 156; refine (iIsValidD _ _ _ _ _ _).mono ?_; rintro e w1 ⟨rfl, hb⟩)
          go_roundw
          case rel => exact ⟨j + 1, by go_num, by omega, all_step hall.out hx, by (repeat (first | with_reducible exact Below.refl _ _ | with_reducible assumption | with_reducible refine Below.setCell ?_ (by first | omega | (simp; done) | (simp; omega)) _ | with_reducible refine Below.alloc ?_ (by first | omega | (simp; done) | (simp; omega)) _ | with_reducible refine Below.drew ?_ | with_reducible refine belowDrewN ?_ _ | with_reducible refine Below.trans ?_ (Below.mono (by assumption) (by first | omega | (simp; done) | (simp; omega)))))⟩
          case measure => simp [intOf]; omega
        · have hfin : okS l = false := okS_no hj hx
          go_wp2_with (go_at_call 156; refine (iIsValidD _ _ _ _ _ _).mono ?_; rintro e w1 ⟨rfl, hb⟩)
          go_ret
          exact ⟨by rw [hfin]; rfl, by (repeat (first | with_reducible exact Below.refl _ _ | with_reducible assumption | with_reducible refine Below.setCell ?_ (by first | omega | (simp; done) | (simp; omega)) _ | with_reducible refine Below.alloc ?_ (by first | omega | (simp; done) | (simp; omega)) _ | with_reducible refine Below.drew ?_ | with_reducible refine belowDrewN ?_ _ | with_reducible refine Below.trans ?_ (Below.mono (by assumption) (by first | omega | (simp; done) | (simp; omega)))))⟩
      · have hfin : okS l = true := okS_yes hq (by intro i hi; exact hall.out i hi (by omega))
        go_wp2
        go_ret
        exact ⟨by rw [hfin]; rfl, by (repeat (first | with_reducible exact Below.refl _ _ | with_reducible assumption | with_reducible refine Below.setCell ?_ (by first | omega | (simp; done) | (simp; omega)) _ | with_reducible refine Below.alloc ?_ (by first | omega | (simp; done) | (simp; omega)) _ | with_reducible refine Below.drew ?_ | with_reducible refine belowDrewN ?_ _ | with_reducible refine Below.trans ?_ (Below.mono (by assumption) (by first | omega | (simp; done) | (simp; omega)))))⟩

end Go.Proofs.Yteckhaafdojoeaa
