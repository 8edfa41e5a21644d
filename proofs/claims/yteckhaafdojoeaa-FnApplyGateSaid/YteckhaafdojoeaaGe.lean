/- The laws' helpers: sizes, copies and comparisons of numbers. · The laws' helpers: sizes and comparisons of states and matrices. · The laws' copies of states and matrices. · The laws' copy of a matrix. -/
import Derived.Test.YteckhaafdojoeaaGd
import Derived.BigQuiet
/-! L1: The laws' helpers: sizes, copies and comparisons of numbers. -/
namespace Go.Proofs.Yteckhaafdojoeaa
open Go.RowKit

set_option maxHeartbeats 4000000 in
theorem lSzS (ao : Option Addr) (n cap : Nat) (left : Int) (h0 : 0 ≤ left) (h1 : left ≤ 1048576) (hn : n ≤ 9223372036854775807) (w : World) :
    Calls Try.prog 44 #[.slice ao n cap, .int .i64 left] w fun e w' => e = .returned (.int .i64 (if left - n < 0 then -1 else left - n)) ∧ w = w' := by
  by_cases h : left - (n : Int) < 0
  · rw [if_pos h]
    go_enter Try.func44, Try.ntmps44
    go_wp2
    go_ret
    exact ⟨rfl, rfl⟩
  · rw [if_neg h]
    go_enter Try.func44, Try.ntmps44
    go_wp2
    go_ret
    exact ⟨by go_num, rfl⟩

set_option maxHeartbeats 4000000 in
theorem lToZ (a b c d : Int) (w : World) :
    Calls Try.prog 173 #[.agg #[.int .i64 a, .int .i64 b, .int .i64 c, .int .i64 d]] w fun e w' => e = .returned (.agg #[.int .i64 a, .int .i64 b, .int .i64 c, .int .i64 d]) ∧ Below w.heap.size w w' := by
  go_enter Try.func173, Try.ntmps173
  go_wp2
  exact bodyPost_ret (v := .agg #[.int .i64 a, .int .i64 b, .int .i64 c, .int .i64 d]) (by simp [results, Try.results173, go_sem, *]) rfl ⟨rfl, by (repeat (first | with_reducible exact Below.refl _ _ | with_reducible assumption | with_reducible refine Below.setCell ?_ (by first | omega | (simp; done) | (simp; omega)) _ | with_reducible refine Below.alloc ?_ (by first | omega | (simp; done) | (simp; omega)) _ | with_reducible refine Below.drew ?_ | with_reducible refine belowDrewN ?_ _ | with_reducible refine Below.trans ?_ (Below.mono (by assumption) (by first | omega | (simp; done) | (simp; omega)))))⟩

set_option maxHeartbeats 4000000 in
theorem lToD (x : DO) (w : World) :
    Calls Try.prog 123 #[Dv x] w fun e w' => e = .returned (Dv x) ∧ Below w.heap.size w w' := by
  obtain ⟨⟨a, b, c, d⟩, k⟩ := x
  go_enter Try.func123, Try.ntmps123
  go_wp2_with (go_at_call 173; refine (lToZ a b c d _).mono ?_; rintro e w1 ⟨rfl, hb⟩; obtain ⟨hc, hf, hz⟩ := bcell hb; (try simp only [World.size_drew, World.cell?_drew, World.frozen?_drew] at hc hf hz); (try simp at hz); (try have kk := fun o => hc (w.heap.size) o (by first | omega | (simp; done) | (simp; omega))); (try have kf := fun o => hf (w.heap.size) o (by first | omega | (simp; done) | (simp; omega))); (try have zz : w.heap.size < w1.heap.size := by omega); (try have kk := fun o => hc (w.heap.size + 1) o (by first | omega | (simp; done) | (simp; omega))); (try have kf := fun o => hf (w.heap.size + 1) o (by first | omega | (simp; done) | (simp; omega))); (try have zz : w.heap.size + 1 < w1.heap.size := by omega); (try have kk := fun o => hc (w.heap.size + 1 + 1) o (by first | omega | (simp; done) | (simp; omega))); (try have kf := fun o => hf (w.heap.size + 1 + 1) o (by first | omega | (simp; done) | (simp; omega))); (try have zz : w.heap.size + 1 + 1 < w1.heap.size := by omega))
  exact bodyPost_ret (v := .agg #[.int .i64 a, .int .i64 b, .int .i64 c, .int .i64 d, .int .i64 k]) (by simp [results, Try.results123, go_sem, *]) rfl ⟨rfl, by (repeat (first | with_reducible exact Below.refl _ _ | with_reducible assumption | with_reducible refine Below.setCell ?_ (by first | omega | (simp; done) | (simp; omega)) _ | with_reducible refine Below.alloc ?_ (by first | omega | (simp; done) | (simp; omega)) _ | with_reducible refine Below.drew ?_ | with_reducible refine belowDrewN ?_ _ | with_reducible refine Below.trans ?_ (Below.mono (by assumption) (by first | omega | (simp; done) | (simp; omega)))))⟩

set_option maxHeartbeats 4000000 in
theorem lEqZ (a b c d : Int) (w : World) :
    Calls Try.prog 178 #[.agg #[.int .i64 a, .int .i64 b, .int .i64 c, .int .i64 d], .agg #[.int .i64 a, .int .i64 b, .int .i64 c, .int .i64 d]] w fun e w' => e = .returned (.bool true) ∧ Below w.heap.size w w' := by
  go_enter Try.func178, Try.ntmps178
  go_wp2
  go_ret
  exact ⟨rfl, by (repeat (first | with_reducible exact Below.refl _ _ | with_reducible assumption | with_reducible refine Below.setCell ?_ (by first | omega | (simp; done) | (simp; omega)) _ | with_reducible refine Below.alloc ?_ (by first | omega | (simp; done) | (simp; omega)) _ | with_reducible refine Below.drew ?_ | with_reducible refine belowDrewN ?_ _ | with_reducible refine Below.trans ?_ (Below.mono (by assumption) (by first | omega | (simp; done) | (simp; omega)))))⟩

set_option maxHeartbeats 4000000 in
theorem lEqD (x : DO) (w : World) :
    Calls Try.prog 131 #[Dv x, Dv x] w fun e w' => e = .returned (.bool true) ∧ Below w.heap.size w w' := by
  obtain ⟨⟨a, b, c, d⟩, k⟩ := x
  go_enter Try.func131, Try.ntmps131
  go_wp2_with (go_at_call 178; refine (lEqZ a b c d _).mono ?_; rintro e w1 ⟨rfl, hb⟩; obtain ⟨hc, hf, hz⟩ := bcell hb; (try simp only [World.size_drew, World.cell?_drew, World.frozen?_drew] at hc hf hz); (try simp at hz); (try have kk := fun o => hc (w.heap.size) o (by first | omega | (simp; done) | (simp; omega))); (try have kf := fun o => hf (w.heap.size) o (by first | omega | (simp; done) | (simp; omega))); (try have zz : w.heap.size < w1.heap.size := by omega); (try have kk := fun o => hc (w.heap.size + 1) o (by first | omega | (simp; done) | (simp; omega))); (try have kf := fun o => hf (w.heap.size + 1) o (by first | omega | (simp; done) | (simp; omega))); (try have zz : w.heap.size + 1 < w1.heap.size := by omega))
  go_ret
  exact ⟨rfl, by (repeat (first | with_reducible exact Below.refl _ _ | with_reducible assumption | with_reducible refine Below.setCell ?_ (by first | omega | (simp; done) | (simp; omega)) _ | with_reducible refine Below.alloc ?_ (by first | omega | (simp; done) | (simp; omega)) _ | with_reducible refine Below.drew ?_ | with_reducible refine belowDrewN ?_ _ | with_reducible refine Below.trans ?_ (Below.mono (by assumption) (by first | omega | (simp; done) | (simp; omega)))))⟩

end Go.Proofs.Yteckhaafdojoeaa

/-! L2: The laws' helpers: sizes and comparisons of states and matrices. -/
namespace Go.Proofs.Yteckhaafdojoeaa
open Go.RowKit BigFrame

set_option maxHeartbeats 4000000 in
theorem lSzSS (ao : Option Addr) (m : List (List DO)) (cap : Nat) (hn : m.length ≤ 9223372036854775807) (hr : ∀ r ∈ m, r.length ≤ 9223372036854775807) (w : World) (h : MtR w ao m) :
    Calls Try.prog 40 #[.slice ao m.length cap, .int .i64 1048576] w fun e w' => ∃ r : Int, e = .returned (.int .i64 r) ∧ w = w' ∧ (r = -1 ∨ (0 ≤ r ∧ SzM m)) := by
  by_cases hm : (1048576 : Int) - (m.length : Int) < 0
  · go_enter Try.func40, Try.ntmps40
    go_wp2
    go_ret
    exact ⟨-1, rfl, rfl, .inl rfl⟩
  · go_enter Try.func40, Try.ntmps40
    go_wp2
    go_loopw [1, 5] (fun v x wr => ∃ (l : Int) (j : Nat), v = .int .i64 l ∧ x = .int .i64 j ∧ 0 ≤ l ∧ l ≤ 1048576 ∧ j ≤ m.length ∧ Hid (∀ i (hi : i < m.length), i < j → m[i].length ≤ 2000000) ∧ w = wr) (fun _ x _ => m.length - (intOf x).toNat)
    case atStart => exact ⟨1048576 - m.length, 0, by go_num, rfl, by omega, by omega, Nat.zero_le _, fun _ _ h => absurd h (Nat.not_lt_zero _), rfl⟩
    case round =>
      obtain ⟨l, j, rfl, rfl, l0, l1, h0, hinv, rfl⟩ := hrel
      by_cases hj : j < m.length
      · obtain ⟨b, o, rfl, hlt, ro, rc, hcell, hR⟩ := h j hj
        have hrj := hr m[j] (List.getElem_mem _)
        by_cases hl : l - (m[j].length : Int) < 0
        · go_wp2_with fail
          refine (lSzS _ _ _ _ l0 l1 hrj _).mono ?_
          rintro e _ ⟨rfl, rfl⟩
          rw [if_pos hl]
          go_wp2
          go_ret
          exact ⟨-1, rfl, rfl, .inl rfl⟩
        · have hnext : ∀ i (hi : i < m.length), i < j + 1 → m[i].length ≤ 2000000 := fun i hi hij => by
            by_cases e : i = j
            · subst e; omega
            · exact hinv.out i hi (by omega)
          have HN := Lib.hid hnext
          obtain ⟨l', hl'⟩ : ∃ l', l' = l - (m[j].length : Int) := ⟨_, rfl⟩
          have h2 : 0 ≤ l' := by omega
          have h3 : l' ≤ 1048576 := by omega
          have h4 : ¬ l' < 0 := by omega
          have HL := Lib.hid hl
          clear hnext
          go_wp2_with fail
          refine (lSzS _ _ _ _ l0 l1 hrj _).mono ?_
          rintro e _ ⟨rfl, rfl⟩
          rw [if_neg (by have := HL.out; omega), ← hl']
          clear hl hl' HL l0 l1
          go_wp2
          go_roundw
          case rel => exact ⟨l', j + 1, rfl, by go_num, h2, h3, by omega, HN.out, by first | rfl | trivial⟩
          case measure => simp [intOf]; omega
      · have hsz : SzM m := ⟨by omega, fun r hr => by
          obtain ⟨i, hi, rfl⟩ := List.getElem_of_mem hr
          exact hinv.out i hi (by omega)⟩
        have HS := Lib.hid hsz
        clear hsz
        go_wp2
        go_ret
        exact ⟨l, rfl, rfl, .inr ⟨l0, HS.out⟩⟩

set_option maxHeartbeats 4000000 in
theorem lEqS (ao bo : Option Addr) (l : List DO) (ca cb : Nat) (hn : l.length ≤ 2000000) (w : World) (h : StR w ao l) (h' : StR w bo l) :
    Calls Try.prog 49 #[.slice ao l.length ca, .slice bo l.length cb] w fun e w' => e = .returned (.bool true) ∧ Below w.heap.size w w' := by
  have hl' : ((l.length : Int) != (l.length : Int)) = false := by simp
  go_enter Try.func49, Try.ntmps49
  go_wp2
  go_loopw [5] (fun x wr => ∃ j : Nat, x = .int .i64 j ∧ j ≤ l.length ∧ Below w.heap.size w wr) (fun x _ => l.length - (intOf x).toNat)
  case atStart => exact ⟨0, rfl, Nat.zero_le _, by (repeat (first | with_reducible exact Below.refl _ _ | with_reducible assumption | with_reducible refine Below.setCell ?_ (by first | omega | (simp; done) | (simp; omega)) _ | with_reducible refine Below.alloc ?_ (by first | omega | (simp; done) | (simp; omega)) _ | with_reducible refine Below.drew ?_ | with_reducible refine belowDrewN ?_ _ | with_reducible refine Below.trans ?_ (Below.mono (by assumption) (by first | omega | (simp; done) | (simp; omega)))))⟩
  case round =>
    obtain ⟨j, rfl, h0, hb0⟩ := hrel
    have hs0 := hb0.size
    by_cases hj : j < l.length
    · obtain ⟨b, o, rfl, hlt, hD⟩ := (h.below hb0) j hj
      obtain ⟨d0, d1, d2, d3, d4⟩ := hD
      obtain ⟨b', o', rfl, hlt', hD'⟩ := (h'.below hb0) j hj
      obtain ⟨g0, g1, g2, g3, g4⟩ := hD'
      go_wp2
      go_region_held3 (fun w' => Below wr.heap.size wr w' ∧ (∀ b o, b < wr.heap.size → w'.cell? ⟨b, o, none⟩ = wr.cell? ⟨b, o, none⟩) ∧ (∀ b o, b < wr.heap.size → w'.frozen? ⟨b, o, none⟩ = wr.frozen? ⟨b, o, none⟩) ∧ wr.heap.size ≤ w'.heap.size) ((exact bpack (by (repeat (first | with_reducible exact Below.refl _ _ | with_reducible assumption | with_reducible refine Below.setCell ?_ (by first | omega | (simp; done) | (simp; omega)) _ | with_reducible refine Below.alloc ?_ (by first | omega | (simp; done) | (simp; omega)) _ | with_reducible refine Below.drew ?_ | with_reducible refine belowDrewN ?_ _ | with_reducible refine Below.trans ?_ (Below.mono (by assumption) (by first | omega | (simp; done) | (simp; omega)))))))) (first | (go_at_call 131; refine (lEqD l[j] _).mono ?_; rintro e wa ⟨rfl, hb⟩; obtain ⟨hc, hf, hz⟩ := bcell hb; (try simp only [World.size_drew, World.cell?_drew, World.frozen?_drew] at hc hf hz); (try simp at hz); (try have kk := fun o => hc (wr.heap.size) o (by first | omega | (simp; done) | (simp; omega))); (try have kf := fun o => hf (wr.heap.size) o (by first | omega | (simp; done) | (simp; omega))); (try have zz : wr.heap.size < wa.heap.size := by omega)))
      all_goals go_wp2
      all_goals go_roundw
      all_goals first
        | exact ⟨j + 1, by go_num, by omega, by (repeat (first | with_reducible exact Below.refl _ _ | with_reducible assumption | with_reducible refine Below.setCell ?_ (by first | omega | (simp; done) | (simp; omega)) _ | with_reducible refine Below.alloc ?_ (by first | omega | (simp; done) | (simp; omega)) _ | with_reducible refine Below.drew ?_ | with_reducible refine belowDrewN ?_ _ | with_reducible refine Below.trans ?_ (Below.mono (by assumption) (by first | omega | (simp; done) | (simp; omega)))))⟩
        | (simp [intOf]; omega)
    · go_wp2
      go_ret
      exact ⟨rfl, by (repeat (first | with_reducible exact Below.refl _ _ | with_reducible assumption | with_reducible refine Below.setCell ?_ (by first | omega | (simp; done) | (simp; omega)) _ | with_reducible refine Below.alloc ?_ (by first | omega | (simp; done) | (simp; omega)) _ | with_reducible refine Below.drew ?_ | with_reducible refine belowDrewN ?_ _ | with_reducible refine Below.trans ?_ (Below.mono (by assumption) (by first | omega | (simp; done) | (simp; omega)))))⟩

set_option maxHeartbeats 4000000 in
theorem lEqSS (ao bo : Option Addr) (m : List (List DO)) (ca cb : Nat) (hz : SzM m) (w : World) (h : MtR w ao m) (h' : MtR w bo m) :
    Calls Try.prog 43 #[.slice ao m.length ca, .slice bo m.length cb] w fun e w' => e = .returned (.bool true) ∧ Below w.heap.size w w' := by
  have hl' : ((m.length : Int) != (m.length : Int)) = false := by simp
  obtain ⟨hz1, hz2⟩ := hz
  go_enter Try.func43, Try.ntmps43
  go_wp2
  go_loopw [5] (fun x wr => ∃ j : Nat, x = .int .i64 j ∧ j ≤ m.length ∧ Below w.heap.size w wr) (fun x _ => m.length - (intOf x).toNat)
  case atStart => exact ⟨0, rfl, Nat.zero_le _, by (repeat (first | with_reducible exact Below.refl _ _ | with_reducible assumption | with_reducible refine Below.setCell ?_ (by first | omega | (simp; done) | (simp; omega)) _ | with_reducible refine Below.alloc ?_ (by first | omega | (simp; done) | (simp; omega)) _ | with_reducible refine Below.drew ?_ | with_reducible refine belowDrewN ?_ _ | with_reducible refine Below.trans ?_ (Below.mono (by assumption) (by first | omega | (simp; done) | (simp; omega)))))⟩
  case round =>
    obtain ⟨j, rfl, h0, hb0⟩ := hrel
    have hs0 := hb0.size
    by_cases hj : j < m.length
    · obtain ⟨b, o, rfl, hlt, ro, rc, hcell, hR⟩ := (h.below hb0) j hj
      obtain ⟨b', o', rfl, hlt', ro', rc', hcell', hR'⟩ := (h'.below hb0) j hj
      have hz3 := hz2 m[j] (List.getElem_mem _)
      go_wp2
      go_region_held3 (fun w' => Below wr.heap.size wr w' ∧ (∀ b o, b < wr.heap.size → w'.cell? ⟨b, o, none⟩ = wr.cell? ⟨b, o, none⟩) ∧ (∀ b o, b < wr.heap.size → w'.frozen? ⟨b, o, none⟩ = wr.frozen? ⟨b, o, none⟩) ∧ wr.heap.size ≤ w'.heap.size) ((exact bpack (by (repeat (first | with_reducible exact Below.refl _ _ | with_reducible assumption | with_reducible refine Below.setCell ?_ (by first | omega | (simp; done) | (simp; omega)) _ | with_reducible refine Below.alloc ?_ (by first | omega | (simp; done) | (simp; omega)) _ | with_reducible refine Below.drew ?_ | with_reducible refine belowDrewN ?_ _ | with_reducible refine Below.trans ?_ (Below.mono (by assumption) (by first | omega | (simp; done) | (simp; omega)))))))) (first | (go_at_call 49; refine (lEqS _ _ m[j] _ _ hz3 _ (hR.below (by (repeat (first | with_reducible exact Below.refl _ _ | with_reducible assumption | with_reducible refine Below.setCell ?_ (by first | omega | (simp; done) | (simp; omega)) _ | with_reducible refine Below.alloc ?_ (by first | omega | (simp; done) | (simp; omega)) _ | with_reducible refine Below.drew ?_ | with_reducible refine belowDrewN ?_ _ | with_reducible refine Below.trans ?_ (Below.mono (by assumption) (by first | omega | (simp; done) | (simp; omega))))))) (hR'.below (by (repeat (first | with_reducible exact Below.refl _ _ | with_reducible assumption | with_reducible refine Below.setCell ?_ (by first | omega | (simp; done) | (simp; omega)) _ | with_reducible refine Below.alloc ?_ (by first | omega | (simp; done) | (simp; omega)) _ | with_reducible refine Below.drew ?_ | with_reducible refine belowDrewN ?_ _ | with_reducible refine Below.trans ?_ (Below.mono (by assumption) (by first | omega | (simp; done) | (simp; omega)))))))).mono ?_; rintro e wa ⟨rfl, hb⟩))
      all_goals go_wp2
      all_goals go_roundw
      all_goals first
        | exact ⟨j + 1, by go_num, by omega, by (repeat (first | with_reducible exact Below.refl _ _ | with_reducible assumption | with_reducible refine Below.setCell ?_ (by first | omega | (simp; done) | (simp; omega)) _ | with_reducible refine Below.alloc ?_ (by first | omega | (simp; done) | (simp; omega)) _ | with_reducible refine Below.drew ?_ | with_reducible refine belowDrewN ?_ _ | with_reducible refine Below.trans ?_ (Below.mono (by assumption) (by first | omega | (simp; done) | (simp; omega)))))⟩
        | (simp [intOf]; omega)
    · go_wp2
      go_ret
      exact ⟨rfl, by (repeat (first | with_reducible exact Below.refl _ _ | with_reducible assumption | with_reducible refine Below.setCell ?_ (by first | omega | (simp; done) | (simp; omega)) _ | with_reducible refine Below.alloc ?_ (by first | omega | (simp; done) | (simp; omega)) _ | with_reducible refine Below.drew ?_ | with_reducible refine belowDrewN ?_ _ | with_reducible refine Below.trans ?_ (Below.mono (by assumption) (by first | omega | (simp; done) | (simp; omega)))))⟩

end Go.Proofs.Yteckhaafdojoeaa

/-! L3: The laws' copies of states and matrices. -/
namespace Go.Proofs.Yteckhaafdojoeaa
open Go.RowKit

def toP {α : Type} (z : α) (l : List α) (j : Nat) : List α := l.take j ++ List.replicate (l.length - j) z
theorem toP_length {α : Type} (z : α) (l : List α) (j : Nat) (h : j ≤ l.length) : (toP z l j).length = l.length := by
  simp [toP]; omega
theorem toP_zero {α : Type} (z : α) (l : List α) : toP z l 0 = List.replicate l.length z := by simp [toP]
theorem toP_end {α : Type} (z : α) (l : List α) {j : Nat} (h : l.length ≤ j) : toP z l j = l := by
  rw [toP, List.take_of_length_le h, Nat.sub_eq_zero_of_le h]
  simp
theorem toP_step {α : Type} (z : α) (l : List α) {j : Nat} (h : j < l.length) : (toP z l j).set j l[j] = toP z l (j + 1) := by
  have e : l.length - j = (l.length - (j + 1)) + 1 := by omega
  have hl : (l.take j).length = j := by rw [List.length_take]; omega
  rw [toP, e, List.replicate_succ, List.set_append_right _ _ (by omega), hl, Nat.sub_self, List.set_cons_zero, toP, List.take_succ_eq_append_getElem h, List.append_assoc]
  rfl

set_option maxHeartbeats 4000000 in
theorem lToS (ao : Option Addr) (l : List DO) (cap : Nat) (hn : l.length ≤ 2000000) (w : World) (h : StR w ao l) :
    Calls Try.prog 47 #[.slice ao l.length cap] w fun e w' => ∃ v, e = .returned v ∧ OwnS w' w.heap.size v l ∧ Below w.heap.size w w' := by
  obtain ⟨iD, hiD, hzD0, hzD1, hzD2⟩ := info_parts infoD
  have hbytes : iD.bytes * l.length ≤ 281474976710656 := by rw [hzD2]; omega
  have hmax : l.length ≤ maxLen := by unfold maxLen; omega
  go_enter Try.func47, Try.ntmps47
  go_wp2_with (first | (at_make; refine wpList_make_full _ rfl _ _ 56 rfl w.heap.size TD iD _ 5 Try.underlying56 hiD hzD0 hzD1 _ _ _ _ l.length rfl rfl rfl rfl hbytes hmax (Nat.le_refl _) ?_))
  intro w1 hown hgrow
  have hS := OwnS.made (N := l.length) hown
  rw [← toP_zero] at hS
  have hb1 : Below w.heap.size w w1 := (Below.refl _ _).grown hgrow (Nat.le_refl _) (fun k hk => by cases hk)
  have hs1 := hb1.size
  have hlt : w.heap.size < w1.heap.size := (World.ownsRow.lt hS w.heap.size rfl).2
  clear hown hgrow
  go_wp2
  go_loopw [4] (fun x wr => ∃ j : Nat, x = .int .i64 j ∧ j ≤ l.length ∧ OwnS wr w.heap.size (.slice (some ⟨w.heap.size, 0, none⟩) l.length l.length) (toP ⟨⟨0, 0, 0, 0⟩, 0⟩ l j) ∧ Below w.heap.size w wr ∧ w.heap.size < wr.heap.size) (fun x _ => l.length - (intOf x).toNat)
  case atStart => exact ⟨0, rfl, Nat.zero_le _, hS, hb1, hlt⟩
  case round =>
    obtain ⟨j, rfl, j0, hS4, hb4, hg4⟩ := hrel
    have hs4 := hb4.size
    by_cases hj : j < l.length
    · obtain ⟨b, o, rfl, hlb, hD⟩ := (h.below hb4) j hj
      obtain ⟨d0, d1, d2, d3, d4⟩ := hD
      have hjP : j < (toP (⟨⟨0, 0, 0, 0⟩, 0⟩ : DO) l j).length := by rw [toP_length _ _ _ j0]; exact hj
      obtain ⟨hD, q7, q8⟩ := hS4.at hjP
      have q9 := fun w2 hb => q8 w2 l[j] hb
      rw [toP_step _ _ hj] at q9
      have q8' := Lib.hid q9
      obtain ⟨x, hx⟩ : ∃ x, x = (toP (⟨⟨0, 0, 0, 0⟩, 0⟩ : DO) l j)[j] := ⟨_, rfl⟩
      rw [← hx] at hD
      obtain ⟨e0, e1, e2, e3, e4⟩ := hD
      clear q8 q9 hS4 hS h hx
      go_wp2_with (go_at_call 123; refine (lToD l[j] _).mono ?_; rintro e wa ⟨rfl, hb⟩; obtain ⟨hc, hf, hz⟩ := bcell hb; (try simp only [World.size_drew, World.cell?_drew, World.frozen?_drew] at hc hf hz); (try simp at hz); (try have kk := fun o => hc (w.heap.size) o (by first | omega | (simp; done) | (simp; omega))); (try have kf := fun o => hf (w.heap.size) o (by first | omega | (simp; done) | (simp; omega))); (try have zz : w.heap.size < wa.heap.size := by omega))
      all_goals go_roundw
      all_goals first
        | exact ⟨j + 1, by go_num, by omega, q8'.out _ (by (repeat (first | with_reducible exact Below.refl _ _ | with_reducible assumption | with_reducible refine Below.setCell ?_ (by first | omega | (simp; done) | (simp; omega)) _ | with_reducible refine Below.alloc ?_ (by first | omega | (simp; done) | (simp; omega)) _ | with_reducible refine Below.drew ?_ | with_reducible refine belowDrewN ?_ _ | with_reducible refine Below.trans ?_ (Below.mono (by assumption) (by first | omega | (simp; done) | (simp; omega)))))), by (repeat (first | with_reducible exact Below.refl _ _ | with_reducible assumption | with_reducible refine Below.setCell ?_ (by first | omega | (simp; done) | (simp; omega)) _ | with_reducible refine Below.alloc ?_ (by first | omega | (simp; done) | (simp; omega)) _ | with_reducible refine Below.drew ?_ | with_reducible refine belowDrewN ?_ _ | with_reducible refine Below.trans ?_ (Below.mono (by assumption) (by first | omega | (simp; done) | (simp; omega))))), (by first | omega | (simp; done) | (simp; omega))⟩
        | (simp [intOf]; omega)
    · rw [toP_end _ _ (by omega)] at hS4
      go_wp2
      go_ret
      exact ⟨_, rfl, hS4, by (repeat (first | with_reducible exact Below.refl _ _ | with_reducible assumption | with_reducible refine Below.setCell ?_ (by first | omega | (simp; done) | (simp; omega)) _ | with_reducible refine Below.alloc ?_ (by first | omega | (simp; done) | (simp; omega)) _ | with_reducible refine Below.drew ?_ | with_reducible refine belowDrewN ?_ _ | with_reducible refine Below.trans ?_ (Below.mono (by assumption) (by first | omega | (simp; done) | (simp; omega)))))⟩

end Go.Proofs.Yteckhaafdojoeaa

/-! L4: The laws' copy of a matrix. -/
namespace Go.Proofs.Yteckhaafdojoeaa
open Go.RowKit

theorem OwnM.made {w : World} {base : Nat} {v : Value} {N : Nat} (h : w.ownsRow base TS 1 v N (madeCells #[Value.slice none 0 0] N).toList) : OwnM w base v (List.replicate N []) := by
  have hv : (madeCells #[Value.slice none 0 0] N).toList = List.replicate N (Value.slice none 0 0) := by
    rw [List.eq_replicate_iff]
    refine ⟨by simp [madeCells], fun b hb => ?_⟩
    simp only [madeCells, Array.toList_map, List.mem_map] at hb
    obtain ⟨k, _, rfl⟩ := hb
    show (#[Value.slice none 0 0] : Array Value)[k % 1]! = _
    rw [Nat.mod_one]
    rfl
  rw [hv] at h
  refine ⟨List.replicate N (Value.slice none 0 0), by rw [List.length_replicate]; exact h, fun i hi => ⟨Value.slice none 0 0, ?_, ?_⟩, fun i j x y _ hx _ a ha => ?_⟩
  · rw [List.length_replicate] at hi
    rw [List.getElem?_replicate, if_pos hi]
  · rw [List.getElem_replicate]
    exact OwnS.nil _ _
  · rw [List.getElem?_replicate] at hx
    split at hx
    · cases hx; simp [Value.ownBlock] at ha
    · cases hx

theorem OwnM.setRow {w w1 : World} {base g cap k : Nat} {m : List (List DO)} {x : Value} {r : List DO} (h : OwnM w base (.slice (some ⟨g, 0, none⟩) m.length cap) m) (hk : k < m.length) (hbase : base ≤ w.heap.size) (hb : Below w.heap.size w w1) (hx : OwnS w1 w.heap.size x r) :
    OwnM (w1.setCell ⟨g, k, none⟩ x) base (.slice (some ⟨g, 0, none⟩) m.length cap) (m.set k r) := by
  obtain ⟨vs, ho, hr, hd⟩ := h
  have hvl : vs.length = m.length := by have := ho.1; omega
  have ho1 := ownsRow_below ho hb (Nat.le_refl _)
  obtain ⟨ho2, hg⟩ := World.ownsRow.stored ho1 k x
  have keep : ∀ {y : Value} {l : List DO} {bb : Nat}, OwnS w1 bb y l → OwnS (w1.setCell ⟨g, k, none⟩ x) bb y l := fun {y l bb} hy =>
    World.ownsRow.kept hy hg (OwnS.apart hy ho1)
  refine ⟨vs.set k x, by rw [List.length_set]; exact ho2, fun i hi => ?_, fun i j y z hij hy hz a ha => ?_⟩
  · have hi' : i < m.length := by simpa using hi
    by_cases hik : i = k
    · subst hik
      refine ⟨x, by rw [List.getElem?_set_self (by omega)], ?_⟩
      rw [List.getElem_set_self]
      exact keep (hx.mono hbase)
    · obtain ⟨y, hy, hS⟩ := hr i hi'
      refine ⟨y, by rw [List.getElem?_set_ne (by omega)]; exact hy, ?_⟩
      rw [List.getElem_set_ne (by omega)]
      exact keep (hS.below hb (Nat.le_refl _))
  · have old : ∀ (q : Nat) (y : Value), q ≠ k → (vs.set k x)[q]? = some y → vs[q]? = some y ∧ ∀ a, y.ownBlock = some a → a < w.heap.size := fun q y hq hy => by
      rw [List.getElem?_set_ne (by omega)] at hy
      refine ⟨hy, fun a ha => ?_⟩
      have hql : q < m.length := by have := (List.getElem?_eq_some_iff.1 hy).1; omega
      obtain ⟨y', hy', hS⟩ := hr q hql
      rw [hy] at hy'
      cases hy'
      exact (World.ownsRow.lt hS a ha).2
    have new : ∀ (q : Nat) (y : Value), q = k → (vs.set k x)[q]? = some y → ∀ a, y.ownBlock = some a → w.heap.size ≤ a := fun q y hq hy a ha => by
      subst hq
      rw [List.getElem?_set_self (by omega)] at hy
      cases hy
      exact (World.ownsRow.lt hx a ha).1
    intro hza
    by_cases hi : i = k
    · have h1 := new i y hi hy a ha
      have h2 := (old j z (by omega) hz).2 a hza
      omega
    · by_cases hj : j = k
      · have h1 := new j z hj hz a hza
        have h2 := (old i y hi hy).2 a ha
        omega
      · exact hd i j y z hij (old i y hi hy).1 (old j z hj hz).1 a ha hza

theorem OwnM.frozen {w : World} {base g n cap : Nat} {m : List (List DO)} (h : OwnM w base (.slice (some ⟨g, 0, none⟩) n cap) m) (o : Nat) : w.frozen? ⟨g, o, none⟩ = false := by
  obtain ⟨vs, ho, _, _⟩ := h
  rcases ho.2 with ⟨e, _⟩ | ⟨g', cap', cur, e, _, hg, _⟩
  · cases e
  · cases e
    exact frozen_of_row w g o cur TS hg
theorem OwnM.cell {w : World} {base g n cap k : Nat} {m : List (List DO)} (h : OwnM w base (.slice (some ⟨g, 0, none⟩) n cap) m) (hk : k < m.length) : ∃ v, w.cell? ⟨g, k, none⟩ = some v := by
  obtain ⟨vs, ho, hr, _⟩ := h
  obtain ⟨x, hx, _⟩ := hr k hk
  have hvl : vs.length = m.length := by have := ho.1; omega
  rcases ho.2 with ⟨e, _⟩ | ⟨g', cap', cur, e, _, hg, _⟩
  · cases e
  · cases e
    exact ⟨x, by rw [World.ownsRow.cellAt ho k (by omega), hx]⟩

set_option maxRecDepth 100000 in
set_option maxHeartbeats 4000000 in
theorem lToSS (ao : Option Addr) (m : List (List DO)) (cap : Nat) (hz : SzM m) (w : World) (h : MtR w ao m) :
    Calls Try.prog 42 #[.slice ao m.length cap] w fun e w' => ∃ v, e = .returned v ∧ OwnM w' w.heap.size v m ∧ Below w.heap.size w w' := by
  obtain ⟨hz1, hz2⟩ := hz
  obtain ⟨iS, hiS, hzS0, hzS1, hzS2⟩ := info_parts infoS
  have hbytes : iS.bytes * m.length ≤ 281474976710656 := by rw [hzS2]; omega
  have hmax : m.length ≤ maxLen := by unfold maxLen; omega
  go_enter Try.func42, Try.ntmps42
  go_wp2_with (first | (at_make; refine wpList_make_full _ rfl _ _ 26 rfl w.heap.size TS iS _ 1 Try.underlying26 hiS hzS0 hzS1 _ _ _ _ m.length rfl rfl rfl rfl hbytes hmax (Nat.le_refl _) ?_))
  intro w1 hown hgrow
  have hM := OwnM.made (N := m.length) hown
  rw [← toP_zero] at hM
  have hb1 : Below w.heap.size w w1 := (Below.refl _ _).grown hgrow (Nat.le_refl _) (fun k hk => by cases hk)
  have hs1 := hb1.size
  have hlt : w.heap.size < w1.heap.size := by obtain ⟨vs, ho, _⟩ := hM; exact (World.ownsRow.lt ho w.heap.size rfl).2
  clear hown hgrow
  go_wp2
  go_loopw [4] (fun x wr => ∃ j : Nat, x = .int .i64 j ∧ j ≤ m.length ∧ OwnM wr w.heap.size (.slice (some ⟨w.heap.size, 0, none⟩) m.length m.length) (toP [] m j) ∧ Below w.heap.size w wr ∧ w.heap.size < wr.heap.size) (fun x _ => m.length - (intOf x).toNat)
  case atStart => exact ⟨0, rfl, Nat.zero_le _, hM, hb1, hlt⟩
  case round =>
    obtain ⟨j, rfl, j0, hM4, hb4, hg4⟩ := hrel
    have hs4 := hb4.size
    by_cases hj : j < m.length
    · obtain ⟨b, o, rfl, hlb, ro, rc, hcell, hR⟩ := (h.below hb4) j hj
      have hlj := hz2 m[j] (List.getElem_mem _)
      have hPl := toP_length ([] : List DO) m j j0
      go_wp2_with fail
      refine (lToS _ m[j] _ hlj _ hR).mono ?_
      rintro e w5 ⟨x, rfl, hx, hb5⟩
      have hs5 := hb5.size
      obtain ⟨xo, xc, rfl, _, _, _⟩ := hx.read
      have hM5 := hM4.below hb5 (Nat.le_refl _)
      obtain ⟨v0, hc0⟩ := hM5.cell (k := j) (by rw [hPl]; exact hj)
      have hfz := hM5.frozen
      have hnext : OwnM (w5.setCell ⟨w.heap.size, j, none⟩ (.slice xo m[j].length xc)) w.heap.size (.slice (some ⟨w.heap.size, 0, none⟩) m.length m.length) (toP [] m (j + 1)) := by
        have hq := OwnM.setRow (k := j) (x := .slice xo m[j].length xc) (by rw [hPl]; exact hM4) (by rw [hPl]; exact hj) hs4 hb5 hx
        rw [hPl, toP_step _ _ hj] at hq
        exact hq
      have hb6 : Below w.heap.size w (w5.setCell ⟨w.heap.size, j, none⟩ (.slice xo m[j].length xc)) := (hb4.trans (hb5.mono hs4)).setCell (Nat.le_refl _) _
      have HPL := Lib.hid hPl
      clear hM4 hM5 hM hPl h
      go_wp2
      go_roundw
      case rel => exact ⟨j + 1, by go_num, by omega, hnext, hb6, by simp; omega⟩
      case measure => simp [intOf]; omega
    · rw [toP_end _ _ (by omega)] at hM4
      go_wp2
      go_ret
      exact ⟨_, rfl, hM4, by (repeat (first | with_reducible exact Below.refl _ _ | with_reducible assumption | with_reducible refine Below.setCell ?_ (by first | omega | (simp; done) | (simp; omega)) _ | with_reducible refine Below.alloc ?_ (by first | omega | (simp; done) | (simp; omega)) _ | with_reducible refine Below.drew ?_ | with_reducible refine belowDrewN ?_ _ | with_reducible refine Below.trans ?_ (Below.mono (by assumption) (by first | omega | (simp; done) | (simp; omega)))))⟩

end Go.Proofs.Yteckhaafdojoeaa
