/- Matrices: valid ones, equal ones. -/
import Derived.Test.YteckhaafdojoeaaS6
namespace Go.Proofs.Yteckhaafdojoeaa
open Go.RowKit

/-- A bound on sizes, by which no count wraps and each append has room. -/
def SzM (m : List (List DO)) : Prop := m.length ≤ 2000000 ∧ ∀ r ∈ m, r.length ≤ 2000000
def okM (m : List (List DO)) : Bool := m.all (fun r => decide (r.length = m.length) && okS r) && decide (0 < m.length)
theorem okM_no {m : List (List DO)} {j : Nat} (hj : j < m.length) (h : ¬ (m[j].length = m.length ∧ okS m[j] = true)) : okM m = false := by
  rw [okM, Bool.and_eq_false_iff]
  left
  rw [List.all_eq_false]
  refine ⟨m[j], List.getElem_mem _, ?_⟩
  simpa using h
theorem okM_yes {m : List (List DO)} (h : ∀ i (hi : i < m.length), m[i].length = m.length ∧ okS m[i] = true) : okM m = decide (0 < m.length) := by
  rw [okM]
  have : m.all (fun r => decide (r.length = m.length) && okS r) = true := by
    rw [List.all_eq_true]
    intro x hx
    obtain ⟨i, hi, rfl⟩ := List.getElem_of_mem hx
    simpa using h i hi
  rw [this, Bool.true_and]
theorem rows_step {m : List (List DO)} {j : Nat} (h : ∀ i (hi : i < m.length), i < j → m[i].length = m.length ∧ okS m[i] = true) {hj : j < m.length} (hx : m[j].length = m.length ∧ okS m[j] = true) :
    ∀ i (hi : i < m.length), i < j + 1 → m[i].length = m.length ∧ okS m[i] = true := fun i hi hij => by
  by_cases e : i = j
  · subst e; exact hx
  · exact h i hi (by omega)

set_option maxHeartbeats 4000000 in
theorem iIsValidMatrix (ao : Option Addr) (m : List (List DO)) (cap : Nat) (hz : SzM m) (w : World) (h : MtR w ao m) :
    Calls Try.prog 75 #[.slice ao m.length cap] w fun e w' => e = .returned (.bool (okM m)) ∧ Below w.heap.size w w' := by
  obtain ⟨hz1, hz2⟩ := hz
  go_enter Try.func75, Try.ntmps75
  go_wp2
  go_loopw [7] (fun x wr => ∃ j : Nat, x = .int .i64 j ∧ j ≤ m.length ∧ Hid (∀ i (hi : i < m.length), i < j → m[i].length = m.length ∧ okS m[i] = true) ∧ Below w.heap.size w wr) (fun x _ => m.length - (intOf x).toNat)
  case atStart => exact ⟨0, rfl, Nat.zero_le _, fun _ _ h => absurd h (Nat.not_lt_zero _), by (repeat (first | with_reducible exact Below.refl _ _ | with_reducible assumption | with_reducible refine Below.setCell ?_ (by first | omega | (simp; done) | (simp; omega)) _ | with_reducible refine Below.alloc ?_ (by first | omega | (simp; done) | (simp; omega)) _ | with_reducible refine Below.drew ?_ | with_reducible refine belowDrewN ?_ _ | with_reducible refine Below.trans ?_ (Below.mono (by assumption) (by first | omega | (simp; done) | (simp; omega)))))⟩
  case round =>
    obtain ⟨j, rfl, h0, hinv, hb0⟩ := hrel
    have hs0 := hb0.size
    by_cases hj : j < m.length
    · obtain ⟨b, o, rfl, hlt, ro, rc, hcell, hR⟩ := (h.below hb0) j hj
      have hz3 : m[j].length ≤ 1000000000 := by have := hz2 m[j] (List.getElem_mem _); omega
      clear h
      by_cases hl : m[j].length = m.length
      · have hl' : ((m[j].length : Int) != (m.length : Int)) = false := by simp [hl]
        have HL := Lib.hid hl
        clear hl
        by_cases hx : okS m[j] = true
        · go_wp2_with (go_at_call 124; refine (iIsValidState _ _ _ hz3 _ (hR.below (by (repeat (first | with_reducible exact Below.refl _ _ | with_reducible assumption | with_reducible refine Below.setCell ?_ (by first | omega | (simp; done) | (simp; omega)) _ | with_reducible refine Below.alloc ?_ (by first | omega | (simp; done) | (simp; omega)) _ | with_reducible refine Below.drew ?_ | with_reducible refine belowDrewN ?_ _ | with_reducible refine Below.trans ?_ (Below.mono (by assumption) (by first | omega | (simp; done) | (simp; omega)))))))).mono ?_; rintro e w1 ⟨rfl, hb⟩)
          go_roundw
          case rel => exact ⟨j + 1, by go_num, by omega, rows_step hinv.out ⟨HL.out, hx⟩, by (repeat (first | with_reducible exact Below.refl _ _ | with_reducible assumption | with_reducible refine Below.setCell ?_ (by first | omega | (simp; done) | (simp; omega)) _ | with_reducible refine Below.alloc ?_ (by first | omega | (simp; done) | (simp; omega)) _ | with_reducible refine Below.drew ?_ | with_reducible refine belowDrewN ?_ _ | with_reducible refine Below.trans ?_ (Below.mono (by assumption) (by first | omega | (simp; done) | (simp; omega)))))⟩
          case measure => simp [intOf]; omega
        · have hfin := Lib.hid (okM_no hj (fun h => hx h.2))
          go_wp2_with (go_at_call 124; refine (iIsValidState _ _ _ hz3 _ (hR.below (by (repeat (first | with_reducible exact Below.refl _ _ | with_reducible assumption | with_reducible refine Below.setCell ?_ (by first | omega | (simp; done) | (simp; omega)) _ | with_reducible refine Below.alloc ?_ (by first | omega | (simp; done) | (simp; omega)) _ | with_reducible refine Below.drew ?_ | with_reducible refine belowDrewN ?_ _ | with_reducible refine Below.trans ?_ (Below.mono (by assumption) (by first | omega | (simp; done) | (simp; omega)))))))).mono ?_; rintro e w1 ⟨rfl, hb⟩)
          go_ret
          exact ⟨by rw [hfin.out]; rfl, by (repeat (first | with_reducible exact Below.refl _ _ | with_reducible assumption | with_reducible refine Below.setCell ?_ (by first | omega | (simp; done) | (simp; omega)) _ | with_reducible refine Below.alloc ?_ (by first | omega | (simp; done) | (simp; omega)) _ | with_reducible refine Below.drew ?_ | with_reducible refine belowDrewN ?_ _ | with_reducible refine Below.trans ?_ (Below.mono (by assumption) (by first | omega | (simp; done) | (simp; omega)))))⟩
      · have hl' : ((m[j].length : Int) != (m.length : Int)) = true := by simp; omega
        have hfin := Lib.hid (okM_no hj (fun h => hl h.1))
        clear hl
        go_wp2
        go_ret
        exact ⟨by rw [hfin.out]; rfl, by (repeat (first | with_reducible exact Below.refl _ _ | with_reducible assumption | with_reducible refine Below.setCell ?_ (by first | omega | (simp; done) | (simp; omega)) _ | with_reducible refine Below.alloc ?_ (by first | omega | (simp; done) | (simp; omega)) _ | with_reducible refine Below.drew ?_ | with_reducible refine belowDrewN ?_ _ | with_reducible refine Below.trans ?_ (Below.mono (by assumption) (by first | omega | (simp; done) | (simp; omega)))))⟩
    · have hfin := Lib.hid (okM_yes (m := m) (fun i hi => hinv.out i hi (by omega)))
      go_wp2
      go_ret
      exact ⟨by rw [hfin.out]; simp, by (repeat (first | with_reducible exact Below.refl _ _ | with_reducible assumption | with_reducible refine Below.setCell ?_ (by first | omega | (simp; done) | (simp; omega)) _ | with_reducible refine Below.alloc ?_ (by first | omega | (simp; done) | (simp; omega)) _ | with_reducible refine Below.drew ?_ | with_reducible refine belowDrewN ?_ _ | with_reducible refine Below.trans ?_ (Below.mono (by assumption) (by first | omega | (simp; done) | (simp; omega)))))⟩

set_option maxHeartbeats 4000000 in
theorem iEqualMatrix (ao bo : Option Addr) (m n : List (List DO)) (cm cn : Nat) (hm : SzM m) (hn : SzM n) (w : World) (h : MtR w ao m) (h' : MtR w bo n) :
    Calls Try.prog 104 #[.slice ao m.length cm, .slice bo n.length cn] w fun e w' => e = .returned (.bool (decide (m = n))) ∧ Below w.heap.size w w' := by
  obtain ⟨hm1, hm2⟩ := hm
  obtain ⟨hn1, hn2⟩ := hn
  by_cases hl : m.length = n.length
  · have hl' : ((m.length : Int) != (n.length : Int)) = false := by simp [hl]
    have HL := Lib.hid hl
    clear hl
    go_enter Try.func104, Try.ntmps104
    go_wp2
    go_loopw [13] (fun x wr => ∃ j : Nat, x = .int .i64 j ∧ j ≤ m.length ∧ Hid (m.take j = n.take j) ∧ Below w.heap.size w wr) (fun x _ => m.length - (intOf x).toNat)
    case atStart => exact ⟨0, rfl, Nat.zero_le _, rfl, by (repeat (first | with_reducible exact Below.refl _ _ | with_reducible assumption | with_reducible refine Below.setCell ?_ (by first | omega | (simp; done) | (simp; omega)) _ | with_reducible refine Below.alloc ?_ (by first | omega | (simp; done) | (simp; omega)) _ | with_reducible refine Below.drew ?_ | with_reducible refine belowDrewN ?_ _ | with_reducible refine Below.trans ?_ (Below.mono (by assumption) (by first | omega | (simp; done) | (simp; omega)))))⟩
    case round =>
      obtain ⟨j, rfl, h0, hinv, hb0⟩ := hrel
      have hs0 := hb0.size
      by_cases hj : j < m.length
      · have hjn : j < n.length := by rw [← HL.out]; exact hj
        obtain ⟨b, o, rfl, hlt, ro, rc, hcell, hR⟩ := (h.below hb0) j hj
        obtain ⟨b', o', rfl, hlt', ro', rc', hcell', hR'⟩ := (h'.below hb0) j hjn
        have hz1 : m[j].length ≤ 1000000000 := by have := hm2 m[j] (List.getElem_mem _); omega
        have hz2 : n[j].length ≤ 1000000000 := by have := hn2 n[j] (List.getElem_mem _); omega
        clear h h'
        by_cases he : m[j] = n[j]
        · have hnext := Lib.hid (take_eq_succ hj hjn hinv.out he)
          have hdec : decide (m[j] = n[j]) = true := decide_eq_true he
          clear he
          go_wp2
          go_region_held3 (fun w' => Below wr.heap.size wr w' ∧ (∀ b o, b < wr.heap.size → w'.cell? ⟨b, o, none⟩ = wr.cell? ⟨b, o, none⟩) ∧ (∀ b o, b < wr.heap.size → w'.frozen? ⟨b, o, none⟩ = wr.frozen? ⟨b, o, none⟩) ∧ wr.heap.size ≤ w'.heap.size) ((exact bpack (by (repeat (first | with_reducible exact Below.refl _ _ | with_reducible assumption | with_reducible refine Below.setCell ?_ (by first | omega | (simp; done) | (simp; omega)) _ | with_reducible refine Below.alloc ?_ (by first | omega | (simp; done) | (simp; omega)) _ | with_reducible refine Below.drew ?_ | with_reducible refine belowDrewN ?_ _ | with_reducible refine Below.trans ?_ (Below.mono (by assumption) (by first | omega | (simp; done) | (simp; omega)))))))) (first | (go_at_call 138; refine (iSame _ _ m[j] n[j] _ _ hz1 hz2 _ (hR.below (by (repeat (first | with_reducible exact Below.refl _ _ | with_reducible assumption | with_reducible refine Below.setCell ?_ (by first | omega | (simp; done) | (simp; omega)) _ | with_reducible refine Below.alloc ?_ (by first | omega | (simp; done) | (simp; omega)) _ | with_reducible refine Below.drew ?_ | with_reducible refine belowDrewN ?_ _ | with_reducible refine Below.trans ?_ (Below.mono (by assumption) (by first | omega | (simp; done) | (simp; omega))))))) (hR'.below (by (repeat (first | with_reducible exact Below.refl _ _ | with_reducible assumption | with_reducible refine Below.setCell ?_ (by first | omega | (simp; done) | (simp; omega)) _ | with_reducible refine Below.alloc ?_ (by first | omega | (simp; done) | (simp; omega)) _ | with_reducible refine Below.drew ?_ | with_reducible refine belowDrewN ?_ _ | with_reducible refine Below.trans ?_ (Below.mono (by assumption) (by first | omega | (simp; done) | (simp; omega)))))))).mono ?_; rw [hdec]; rintro e wa ⟨rfl, hb⟩))
          all_goals go_wp2
          all_goals go_roundw
          all_goals first
            | exact ⟨j + 1, by go_num, by omega, hnext.out, by (repeat (first | with_reducible exact Below.refl _ _ | with_reducible assumption | with_reducible refine Below.setCell ?_ (by first | omega | (simp; done) | (simp; omega)) _ | with_reducible refine Below.alloc ?_ (by first | omega | (simp; done) | (simp; omega)) _ | with_reducible refine Below.drew ?_ | with_reducible refine belowDrewN ?_ _ | with_reducible refine Below.trans ?_ (Below.mono (by assumption) (by first | omega | (simp; done) | (simp; omega)))))⟩
            | (simp [intOf]; omega)
        · have hdec : decide (m[j] = n[j]) = false := decide_eq_false he
          have hfin : decide (m = n) = false := by
            rw [decide_eq_false_iff_not]
            intro e
            subst e
            exact he rfl
          have HF := Lib.hid hfin
          clear he hfin
          go_wp2
          go_region_held3 (fun w' => Below wr.heap.size wr w' ∧ (∀ b o, b < wr.heap.size → w'.cell? ⟨b, o, none⟩ = wr.cell? ⟨b, o, none⟩) ∧ (∀ b o, b < wr.heap.size → w'.frozen? ⟨b, o, none⟩ = wr.frozen? ⟨b, o, none⟩) ∧ wr.heap.size ≤ w'.heap.size) ((exact bpack (by (repeat (first | with_reducible exact Below.refl _ _ | with_reducible assumption | with_reducible refine Below.setCell ?_ (by first | omega | (simp; done) | (simp; omega)) _ | with_reducible refine Below.alloc ?_ (by first | omega | (simp; done) | (simp; omega)) _ | with_reducible refine Below.drew ?_ | with_reducible refine belowDrewN ?_ _ | with_reducible refine Below.trans ?_ (Below.mono (by assumption) (by first | omega | (simp; done) | (simp; omega)))))))) (first | (go_at_call 138; refine (iSame _ _ m[j] n[j] _ _ hz1 hz2 _ (hR.below (by (repeat (first | with_reducible exact Below.refl _ _ | with_reducible assumption | with_reducible refine Below.setCell ?_ (by first | omega | (simp; done) | (simp; omega)) _ | with_reducible refine Below.alloc ?_ (by first | omega | (simp; done) | (simp; omega)) _ | with_reducible refine Below.drew ?_ | with_reducible refine belowDrewN ?_ _ | with_reducible refine Below.trans ?_ (Below.mono (by assumption) (by first | omega | (simp; done) | (simp; omega))))))) (hR'.below (by (repeat (first | with_reducible exact Below.refl _ _ | with_reducible assumption | with_reducible refine Below.setCell ?_ (by first | omega | (simp; done) | (simp; omega)) _ | with_reducible refine Below.alloc ?_ (by first | omega | (simp; done) | (simp; omega)) _ | with_reducible refine Below.drew ?_ | with_reducible refine belowDrewN ?_ _ | with_reducible refine Below.trans ?_ (Below.mono (by assumption) (by first | omega | (simp; done) | (simp; omega)))))))).mono ?_; rw [hdec]; rintro e wa ⟨rfl, hb⟩))
          all_goals go_wp2
          all_goals go_ret
          all_goals exact ⟨by rw [HF.out]; rfl, by (repeat (first | with_reducible exact Below.refl _ _ | with_reducible assumption | with_reducible refine Below.setCell ?_ (by first | omega | (simp; done) | (simp; omega)) _ | with_reducible refine Below.alloc ?_ (by first | omega | (simp; done) | (simp; omega)) _ | with_reducible refine Below.drew ?_ | with_reducible refine belowDrewN ?_ _ | with_reducible refine Below.trans ?_ (Below.mono (by assumption) (by first | omega | (simp; done) | (simp; omega)))))⟩
      · have hfin : decide (m = n) = true := by
          rw [decide_eq_true_iff]
          exact eq_of_take hj HL.out hinv.out
        go_wp2
        go_ret
        exact ⟨by rw [hfin]; rfl, by (repeat (first | with_reducible exact Below.refl _ _ | with_reducible assumption | with_reducible refine Below.setCell ?_ (by first | omega | (simp; done) | (simp; omega)) _ | with_reducible refine Below.alloc ?_ (by first | omega | (simp; done) | (simp; omega)) _ | with_reducible refine Below.drew ?_ | with_reducible refine belowDrewN ?_ _ | with_reducible refine Below.trans ?_ (Below.mono (by assumption) (by first | omega | (simp; done) | (simp; omega)))))⟩
  · have hl' : ((m.length : Int) != (n.length : Int)) = true := by simp; omega
    have hfin : decide (m = n) = false := by
      rw [decide_eq_false_iff_not]
      intro e
      exact hl (by rw [e])
    go_enter Try.func104, Try.ntmps104
    go_wp2
    go_ret
    exact ⟨by rw [hfin]; rfl, by (repeat (first | with_reducible exact Below.refl _ _ | with_reducible assumption | with_reducible refine Below.setCell ?_ (by first | omega | (simp; done) | (simp; omega)) _ | with_reducible refine Below.alloc ?_ (by first | omega | (simp; done) | (simp; omega)) _ | with_reducible refine Below.drew ?_ | with_reducible refine belowDrewN ?_ _ | with_reducible refine Below.trans ?_ (Below.mono (by assumption) (by first | omega | (simp; done) | (simp; omega)))))⟩

set_option maxHeartbeats 4000000 in
theorem sEqualMatrix (ao bo : Option Addr) (m n : List (List DO)) (cm cn : Nat) (hm : SzM m) (hn : SzM n) (w : World) (h : MtR w ao m) (h' : MtR w bo n) :
    Calls Try.prog 22 #[.slice ao m.length cm, .slice bo n.length cn] w fun e w' => e = .returned (.bool (decide (m = n))) ∧ Below w.heap.size w w' := by
  obtain ⟨hm1, hm2⟩ := hm
  obtain ⟨hn1, hn2⟩ := hn
  by_cases hl : m.length = n.length
  · have hl' : ((m.length : Int) != (n.length : Int)) = false := by simp [hl]
    have HL := Lib.hid hl
    clear hl
    go_enter Try.func22, Try.ntmps22
    go_wp2
    go_loopw [5] (fun x wr => ∃ j : Nat, x = .int .i64 j ∧ j ≤ m.length ∧ Hid (m.take j = n.take j) ∧ Below w.heap.size w wr) (fun x _ => m.length - (intOf x).toNat)
    case atStart => exact ⟨0, rfl, Nat.zero_le _, rfl, by (repeat (first | with_reducible exact Below.refl _ _ | with_reducible assumption | with_reducible refine Below.setCell ?_ (by first | omega | (simp; done) | (simp; omega)) _ | with_reducible refine Below.alloc ?_ (by first | omega | (simp; done) | (simp; omega)) _ | with_reducible refine Below.drew ?_ | with_reducible refine belowDrewN ?_ _ | with_reducible refine Below.trans ?_ (Below.mono (by assumption) (by first | omega | (simp; done) | (simp; omega)))))⟩
    case round =>
      obtain ⟨j, rfl, h0, hinv, hb0⟩ := hrel
      have hs0 := hb0.size
      by_cases hj : j < m.length
      · have hjn : j < n.length := by rw [← HL.out]; exact hj
        obtain ⟨b, o, rfl, hlt, ro, rc, hcell, hR⟩ := (h.below hb0) j hj
        obtain ⟨b', o', rfl, hlt', ro', rc', hcell', hR'⟩ := (h'.below hb0) j hjn
        have hz1 : m[j].length ≤ 1000000000 := by have := hm2 m[j] (List.getElem_mem _); omega
        have hz2 : n[j].length ≤ 1000000000 := by have := hn2 n[j] (List.getElem_mem _); omega
        clear h h'
        by_cases he : m[j] = n[j]
        · have hnext := Lib.hid (take_eq_succ hj hjn hinv.out he)
          have hdec : decide (m[j] = n[j]) = true := decide_eq_true he
          clear he
          go_wp2
          go_region_held3 (fun w' => Below wr.heap.size wr w' ∧ (∀ b o, b < wr.heap.size → w'.cell? ⟨b, o, none⟩ = wr.cell? ⟨b, o, none⟩) ∧ (∀ b o, b < wr.heap.size → w'.frozen? ⟨b, o, none⟩ = wr.frozen? ⟨b, o, none⟩) ∧ wr.heap.size ≤ w'.heap.size) ((exact bpack (by (repeat (first | with_reducible exact Below.refl _ _ | with_reducible assumption | with_reducible refine Below.setCell ?_ (by first | omega | (simp; done) | (simp; omega)) _ | with_reducible refine Below.alloc ?_ (by first | omega | (simp; done) | (simp; omega)) _ | with_reducible refine Below.drew ?_ | with_reducible refine belowDrewN ?_ _ | with_reducible refine Below.trans ?_ (Below.mono (by assumption) (by first | omega | (simp; done) | (simp; omega)))))))) (first | (go_at_call 66; refine (sEqualState _ _ m[j] n[j] _ _ hz1 hz2 _ (hR.below (by (repeat (first | with_reducible exact Below.refl _ _ | with_reducible assumption | with_reducible refine Below.setCell ?_ (by first | omega | (simp; done) | (simp; omega)) _ | with_reducible refine Below.alloc ?_ (by first | omega | (simp; done) | (simp; omega)) _ | with_reducible refine Below.drew ?_ | with_reducible refine belowDrewN ?_ _ | with_reducible refine Below.trans ?_ (Below.mono (by assumption) (by first | omega | (simp; done) | (simp; omega))))))) (hR'.below (by (repeat (first | with_reducible exact Below.refl _ _ | with_reducible assumption | with_reducible refine Below.setCell ?_ (by first | omega | (simp; done) | (simp; omega)) _ | with_reducible refine Below.alloc ?_ (by first | omega | (simp; done) | (simp; omega)) _ | with_reducible refine Below.drew ?_ | with_reducible refine belowDrewN ?_ _ | with_reducible refine Below.trans ?_ (Below.mono (by assumption) (by first | omega | (simp; done) | (simp; omega)))))))).mono ?_; rw [hdec]; rintro e wa ⟨rfl, hb⟩))
          all_goals go_wp2
          all_goals go_roundw
          all_goals first
            | exact ⟨j + 1, by go_num, by omega, hnext.out, by (repeat (first | with_reducible exact Below.refl _ _ | with_reducible assumption | with_reducible refine Below.setCell ?_ (by first | omega | (simp; done) | (simp; omega)) _ | with_reducible refine Below.alloc ?_ (by first | omega | (simp; done) | (simp; omega)) _ | with_reducible refine Below.drew ?_ | with_reducible refine belowDrewN ?_ _ | with_reducible refine Below.trans ?_ (Below.mono (by assumption) (by first | omega | (simp; done) | (simp; omega)))))⟩
            | (simp [intOf]; omega)
        · have hdec : decide (m[j] = n[j]) = false := decide_eq_false he
          have hfin : decide (m = n) = false := by
            rw [decide_eq_false_iff_not]
            intro e
            subst e
            exact he rfl
          have HF := Lib.hid hfin
          clear he hfin
          go_wp2
          go_region_held3 (fun w' => Below wr.heap.size wr w' ∧ (∀ b o, b < wr.heap.size → w'.cell? ⟨b, o, none⟩ = wr.cell? ⟨b, o, none⟩) ∧ (∀ b o, b < wr.heap.size → w'.frozen? ⟨b, o, none⟩ = wr.frozen? ⟨b, o, none⟩) ∧ wr.heap.size ≤ w'.heap.size) ((exact bpack (by (repeat (first | with_reducible exact Below.refl _ _ | with_reducible assumption | with_reducible refine Below.setCell ?_ (by first | omega | (simp; done) | (simp; omega)) _ | with_reducible refine Below.alloc ?_ (by first | omega | (simp; done) | (simp; omega)) _ | with_reducible refine Below.drew ?_ | with_reducible refine belowDrewN ?_ _ | with_reducible refine Below.trans ?_ (Below.mono (by assumption) (by first | omega | (simp; done) | (simp; omega)))))))) (first | (go_at_call 66; refine (sEqualState _ _ m[j] n[j] _ _ hz1 hz2 _ (hR.below (by (repeat (first | with_reducible exact Below.refl _ _ | with_reducible assumption | with_reducible refine Below.setCell ?_ (by first | omega | (simp; done) | (simp; omega)) _ | with_reducible refine Below.alloc ?_ (by first | omega | (simp; done) | (simp; omega)) _ | with_reducible refine Below.drew ?_ | with_reducible refine belowDrewN ?_ _ | with_reducible refine Below.trans ?_ (Below.mono (by assumption) (by first | omega | (simp; done) | (simp; omega))))))) (hR'.below (by (repeat (first | with_reducible exact Below.refl _ _ | with_reducible assumption | with_reducible refine Below.setCell ?_ (by first | omega | (simp; done) | (simp; omega)) _ | with_reducible refine Below.alloc ?_ (by first | omega | (simp; done) | (simp; omega)) _ | with_reducible refine Below.drew ?_ | with_reducible refine belowDrewN ?_ _ | with_reducible refine Below.trans ?_ (Below.mono (by assumption) (by first | omega | (simp; done) | (simp; omega)))))))).mono ?_; rw [hdec]; rintro e wa ⟨rfl, hb⟩))
          all_goals go_wp2
          all_goals go_ret
          all_goals exact ⟨by rw [HF.out]; rfl, by (repeat (first | with_reducible exact Below.refl _ _ | with_reducible assumption | with_reducible refine Below.setCell ?_ (by first | omega | (simp; done) | (simp; omega)) _ | with_reducible refine Below.alloc ?_ (by first | omega | (simp; done) | (simp; omega)) _ | with_reducible refine Below.drew ?_ | with_reducible refine belowDrewN ?_ _ | with_reducible refine Below.trans ?_ (Below.mono (by assumption) (by first | omega | (simp; done) | (simp; omega)))))⟩
      · have hfin : decide (m = n) = true := by
          rw [decide_eq_true_iff]
          exact eq_of_take hj HL.out hinv.out
        go_wp2
        go_ret
        exact ⟨by rw [hfin]; rfl, by (repeat (first | with_reducible exact Below.refl _ _ | with_reducible assumption | with_reducible refine Below.setCell ?_ (by first | omega | (simp; done) | (simp; omega)) _ | with_reducible refine Below.alloc ?_ (by first | omega | (simp; done) | (simp; omega)) _ | with_reducible refine Below.drew ?_ | with_reducible refine belowDrewN ?_ _ | with_reducible refine Below.trans ?_ (Below.mono (by assumption) (by first | omega | (simp; done) | (simp; omega)))))⟩
  · have hl' : ((m.length : Int) != (n.length : Int)) = true := by simp; omega
    have hfin : decide (m = n) = false := by
      rw [decide_eq_false_iff_not]
      intro e
      exact hl (by rw [e])
    go_enter Try.func22, Try.ntmps22
    go_wp2
    go_ret
    exact ⟨by rw [hfin]; rfl, by (repeat (first | with_reducible exact Below.refl _ _ | with_reducible assumption | with_reducible refine Below.setCell ?_ (by first | omega | (simp; done) | (simp; omega)) _ | with_reducible refine Below.alloc ?_ (by first | omega | (simp; done) | (simp; omega)) _ | with_reducible refine Below.drew ?_ | with_reducible refine belowDrewN ?_ _ | with_reducible refine Below.trans ?_ (Below.mono (by assumption) (by first | omega | (simp; done) | (simp; omega)))))⟩

end Go.Proofs.Yteckhaafdojoeaa
