/- The laws' helpers: sizes and comparisons of states and matrices. -/
import Derived.Test.YteckhaafdojoeaaL1
import Derived.BigQuiet
namespace Go.Proofs.Yteckhaafdojoeaa
open Go.RowKit BigFrame

set_option maxHeartbeats 4000000 in
theorem lSzSS (ao : Option Addr) (m : List (List DO)) (cap : Nat) (hn : m.length ≤ 9223372036854775807) (hr : ∀ r ∈ m, r.length ≤ 9223372036854775807) (w : World) (h : MtR w ao m) :
    Calls Try.prog 40 #[.slice ao m.length cap, .int .i64 1048576] w fun e w' => ∃ r : Int, e = .returned (.int .i64 r) ∧ w = w' ∧ (r = -1 ∨ (0 ≤ r ∧ SzM m)) := by
  by_cases hm : (1048576 : Int) - (m.length : Int) < 0
  · go_enter Try.func40, Try.ntmps40
    go_wp2
    go_ret
    exact ⟨-1, rfl, rfl, .inl rfl⟩
  · go_enter Try.func40, Try.ntmps40
    go_wp2
    go_loopw [1, 5] (fun v x wr => ∃ (l : Int) (j : Nat), v = .int .i64 l ∧ x = .int .i64 j ∧ 0 ≤ l ∧ l ≤ 1048576 ∧ j ≤ m.length ∧ Hid (∀ i (hi : i < m.length), i < j → m[i].length ≤ 2000000) ∧ w = wr) (fun _ x _ => m.length - (intOf x).toNat)
    case atStart => exact ⟨1048576 - m.length, 0, by go_num, rfl, by omega, by omega, Nat.zero_le _, fun _ _ h => absurd h (Nat.not_lt_zero _), rfl⟩
    case round =>
      obtain ⟨l, j, rfl, rfl, l0, l1, h0, hinv, rfl⟩ := hrel
      by_cases hj : j < m.length
      · obtain ⟨b, o, rfl, hlt, ro, rc, hcell, hR⟩ := h j hj
        have hrj := hr m[j] (List.getElem_mem _)
        by_cases hl : l - (m[j].length : Int) < 0
        · go_wp2_with fail
          refine (lSzS _ _ _ _ l0 l1 hrj _).mono ?_
          rintro e _ ⟨rfl, rfl⟩
          rw [if_pos hl]
          go_wp2
          go_ret
          exact ⟨-1, rfl, rfl, .inl rfl⟩
        · have hnext : ∀ i (hi : i < m.length), i < j + 1 → m[i].length ≤ 2000000 := fun i hi hij => by
            by_cases e : i = j
            · subst e; omega
            · exact hinv.out i hi (by omega)
          have HN := Lib.hid hnext
          obtain ⟨l', hl'⟩ : ∃ l', l' = l - (m[j].length : Int) := ⟨_, rfl⟩
          have h2 : 0 ≤ l' := by omega
          have h3 : l' ≤ 1048576 := by omega
          have h4 : ¬ l' < 0 := by omega
          have HL := Lib.hid hl
          clear hnext
          go_wp2_with fail
          refine (lSzS _ _ _ _ l0 l1 hrj _).mono ?_
          rintro e _ ⟨rfl, rfl⟩
          rw [if_neg (by have := HL.out; omega), ← hl']
          clear hl hl' HL l0 l1
          go_wp2
          go_roundw
          case rel => exact ⟨l', j + 1, rfl, by go_num, h2, h3, by omega, HN.out, by first | rfl | trivial⟩
          case measure => simp [intOf]; omega
      · have hsz : SzM m := ⟨by omega, fun r hr => by
          obtain ⟨i, hi, rfl⟩ := List.getElem_of_mem hr
          exact hinv.out i hi (by omega)⟩
        have HS := Lib.hid hsz
        clear hsz
        go_wp2
        go_ret
        exact ⟨l, rfl, rfl, .inr ⟨l0, HS.out⟩⟩

set_option maxHeartbeats 4000000 in
theorem lEqS (ao bo : Option Addr) (l : List DO) (ca cb : Nat) (hn : l.length ≤ 2000000) (w : World) (h : StR w ao l) (h' : StR w bo l) :
    Calls Try.prog 49 #[.slice ao l.length ca, .slice bo l.length cb] w fun e w' => e = .returned (.bool true) ∧ Below w.heap.size w w' := by
  have hl' : ((l.length : Int) != (l.length : Int)) = false := by simp
  go_enter Try.func49, Try.ntmps49
  go_wp2
  go_loopw [5] (fun x wr => ∃ j : Nat, x = .int .i64 j ∧ j ≤ l.length ∧ Below w.heap.size w wr) (fun x _ => l.length - (intOf x).toNat)
  case atStart => exact ⟨0, rfl, Nat.zero_le _, by (repeat (first | with_reducible exact Below.refl _ _ | with_reducible assumption | with_reducible refine Below.setCell ?_ (by first | omega | (simp; done) | (simp; omega)) _ | with_reducible refine Below.alloc ?_ (by first | omega | (simp; done) | (simp; omega)) _ | with_reducible refine Below.drew ?_ | with_reducible refine belowDrewN ?_ _ | with_reducible refine Below.trans ?_ (Below.mono (by assumption) (by first | omega | (simp; done) | (simp; omega)))))⟩
  case round =>
    obtain ⟨j, rfl, h0, hb0⟩ := hrel
    have hs0 := hb0.size
    by_cases hj : j < l.length
    · obtain ⟨b, o, rfl, hlt, hD⟩ := (h.below hb0) j hj
      obtain ⟨d0, d1, d2, d3, d4⟩ := hD
      obtain ⟨b', o', rfl, hlt', hD'⟩ := (h'.below hb0) j hj
      obtain ⟨g0, g1, g2, g3, g4⟩ := hD'
      go_wp2
      go_region_held3 (fun w' => Below wr.heap.size wr w' ∧ (∀ b o, b < wr.heap.size → w'.cell? ⟨b, o, none⟩ = wr.cell? ⟨b, o, none⟩) ∧ (∀ b o, b < wr.heap.size → w'.frozen? ⟨b, o, none⟩ = wr.frozen? ⟨b, o, none⟩) ∧ wr.heap.size ≤ w'.heap.size) ((exact bpack (by (repeat (first | with_reducible exact Below.refl _ _ | with_reducible assumption | with_reducible refine Below.setCell ?_ (by first | omega | (simp; done) | (simp; omega)) _ | with_reducible refine Below.alloc ?_ (by first | omega | (simp; done) | (simp; omega)) _ | with_reducible refine Below.drew ?_ | with_reducible refine belowDrewN ?_ _ | with_reducible refine Below.trans ?_ (Below.mono (by assumption) (by first | omega | (simp; done) | (simp; omega)))))))) (first | (go_at_call 131; refine (lEqD l[j] _).mono ?_; rintro e wa ⟨rfl, hb⟩; obtain ⟨hc, hf, hz⟩ := bcell hb; (try simp only [World.size_drew, World.cell?_drew, World.frozen?_drew] at hc hf hz); (try simp at hz); (try have kk := fun o => hc (wr.heap.size) o (by first | omega | (simp; done) | (simp; omega))); (try have kf := fun o => hf (wr.heap.size) o (by first | omega | (simp; done) | (simp; omega))); (try have zz : wr.heap.size < wa.heap.size := by omega)))
      all_goals go_wp2
      all_goals go_roundw
      all_goals first
        | exact ⟨j + 1, by go_num, by omega, by (repeat (first | with_reducible exact Below.refl _ _ | with_reducible assumption | with_reducible refine Below.setCell ?_ (by first | omega | (simp; done) | (simp; omega)) _ | with_reducible refine Below.alloc ?_ (by first | omega | (simp; done) | (simp; omega)) _ | with_reducible refine Below.drew ?_ | with_reducible refine belowDrewN ?_ _ | with_reducible refine Below.trans ?_ (Below.mono (by assumption) (by first | omega | (simp; done) | (simp; omega)))))⟩
        | (simp [intOf]; omega)
    · go_wp2
      go_ret
      exact ⟨rfl, by (repeat (first | with_reducible exact Below.refl _ _ | with_reducible assumption | with_reducible refine Below.setCell ?_ (by first | omega | (simp; done) | (simp; omega)) _ | with_reducible refine Below.alloc ?_ (by first | omega | (simp; done) | (simp; omega)) _ | with_reducible refine Below.drew ?_ | with_reducible refine belowDrewN ?_ _ | with_reducible refine Below.trans ?_ (Below.mono (by assumption) (by first | omega | (simp; done) | (simp; omega)))))⟩

set_option maxHeartbeats 4000000 in
theorem lEqSS (ao bo : Option Addr) (m : List (List DO)) (ca cb : Nat) (hz : SzM m) (w : World) (h : MtR w ao m) (h' : MtR w bo m) :
    Calls Try.prog 43 #[.slice ao m.length ca, .slice bo m.length cb] w fun e w' => e = .returned (.bool true) ∧ Below w.heap.size w w' := by
  have hl' : ((m.length : Int) != (m.length : Int)) = false := by simp
  obtain ⟨hz1, hz2⟩ := hz
  go_enter Try.func43, Try.ntmps43
  go_wp2
  go_loopw [5] (fun x wr => ∃ j : Nat, x = .int .i64 j ∧ j ≤ m.length ∧ Below w.heap.size w wr) (fun x _ => m.length - (intOf x).toNat)
  case atStart => exact ⟨0, rfl, Nat.zero_le _, by (repeat (first | with_reducible exact Below.refl _ _ | with_reducible assumption | with_reducible refine Below.setCell ?_ (by first | omega | (simp; done) | (simp; omega)) _ | with_reducible refine Below.alloc ?_ (by first | omega | (simp; done) | (simp; omega)) _ | with_reducible refine Below.drew ?_ | with_reducible refine belowDrewN ?_ _ | with_reducible refine Below.trans ?_ (Below.mono (by assumption) (by first | omega | (simp; done) | (simp; omega)))))⟩
  case round =>
    obtain ⟨j, rfl, h0, hb0⟩ := hrel
    have hs0 := hb0.size
    by_cases hj : j < m.length
    · obtain ⟨b, o, rfl, hlt, ro, rc, hcell, hR⟩ := (h.below hb0) j hj
      obtain ⟨b', o', rfl, hlt', ro', rc', hcell', hR'⟩ := (h'.below hb0) j hj
      have hz3 := hz2 m[j] (List.getElem_mem _)
      go_wp2
      go_region_held3 (fun w' => Below wr.heap.size wr w' ∧ (∀ b o, b < wr.heap.size → w'.cell? ⟨b, o, none⟩ = wr.cell? ⟨b, o, none⟩) ∧ (∀ b o, b < wr.heap.size → w'.frozen? ⟨b, o, none⟩ = wr.frozen? ⟨b, o, none⟩) ∧ wr.heap.size ≤ w'.heap.size) ((exact bpack (by (repeat (first | with_reducible exact Below.refl _ _ | with_reducible assumption | with_reducible refine Below.setCell ?_ (by first | omega | (simp; done) | (simp; omega)) _ | with_reducible refine Below.alloc ?_ (by first | omega | (simp; done) | (simp; omega)) _ | with_reducible refine Below.drew ?_ | with_reducible refine belowDrewN ?_ _ | with_reducible refine Below.trans ?_ (Below.mono (by assumption) (by first | omega | (simp; done) | (simp; omega)))))))) (first | (go_at_call 49; refine (lEqS _ _ m[j] _ _ hz3 _ (hR.below (by (repeat (first | with_reducible exact Below.refl _ _ | with_reducible assumption | with_reducible refine Below.setCell ?_ (by first | omega | (simp; done) | (simp; omega)) _ | with_reducible refine Below.alloc ?_ (by first | omega | (simp; done) | (simp; omega)) _ | with_reducible refine Below.drew ?_ | with_reducible refine belowDrewN ?_ _ | with_reducible refine Below.trans ?_ (Below.mono (by assumption) (by first | omega | (simp; done) | (simp; omega))))))) (hR'.below (by (repeat (first | with_reducible exact Below.refl _ _ | with_reducible assumption | with_reducible refine Below.setCell ?_ (by first | omega | (simp; done) | (simp; omega)) _ | with_reducible refine Below.alloc ?_ (by first | omega | (simp; done) | (simp; omega)) _ | with_reducible refine Below.drew ?_ | with_reducible refine belowDrewN ?_ _ | with_reducible refine Below.trans ?_ (Below.mono (by assumption) (by first | omega | (simp; done) | (simp; omega)))))))).mono ?_; rintro e wa ⟨rfl, hb⟩))
      all_goals go_wp2
      all_goals go_roundw
      all_goals first
        | exact ⟨j + 1, by go_num, by omega, by (repeat (first | with_reducible exact Below.refl _ _ | with_reducible assumption | with_reducible refine Below.setCell ?_ (by first | omega | (simp; done) | (simp; omega)) _ | with_reducible refine Below.alloc ?_ (by first | omega | (simp; done) | (simp; omega)) _ | with_reducible refine Below.drew ?_ | with_reducible refine belowDrewN ?_ _ | with_reducible refine Below.trans ?_ (Below.mono (by assumption) (by first | omega | (simp; done) | (simp; omega)))))⟩
        | (simp [intOf]; omega)
    · go_wp2
      go_ret
      exact ⟨rfl, by (repeat (first | with_reducible exact Below.refl _ _ | with_reducible assumption | with_reducible refine Below.setCell ?_ (by first | omega | (simp; done) | (simp; omega)) _ | with_reducible refine Below.alloc ?_ (by first | omega | (simp; done) | (simp; omega)) _ | with_reducible refine Below.drew ?_ | with_reducible refine belowDrewN ?_ _ | with_reducible refine Below.trans ?_ (Below.mono (by assumption) (by first | omega | (simp; done) | (simp; omega)))))⟩

end Go.Proofs.Yteckhaafdojoeaa
