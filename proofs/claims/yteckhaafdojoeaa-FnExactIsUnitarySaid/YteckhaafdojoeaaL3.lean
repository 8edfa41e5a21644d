/- The laws' copies of states and matrices. -/
import Derived.Test.YteckhaafdojoeaaL2
namespace Go.Proofs.Yteckhaafdojoeaa
open Go.RowKit

def toP {α : Type} (z : α) (l : List α) (j : Nat) : List α := l.take j ++ List.replicate (l.length - j) z
theorem toP_length {α : Type} (z : α) (l : List α) (j : Nat) (h : j ≤ l.length) : (toP z l j).length = l.length := by
  simp [toP]; omega
theorem toP_zero {α : Type} (z : α) (l : List α) : toP z l 0 = List.replicate l.length z := by simp [toP]
theorem toP_end {α : Type} (z : α) (l : List α) {j : Nat} (h : l.length ≤ j) : toP z l j = l := by
  rw [toP, List.take_of_length_le h, Nat.sub_eq_zero_of_le h]
  simp
theorem toP_step {α : Type} (z : α) (l : List α) {j : Nat} (h : j < l.length) : (toP z l j).set j l[j] = toP z l (j + 1) := by
  have e : l.length - j = (l.length - (j + 1)) + 1 := by omega
  have hl : (l.take j).length = j := by rw [List.length_take]; omega
  rw [toP, e, List.replicate_succ, List.set_append_right _ _ (by omega), hl, Nat.sub_self, List.set_cons_zero, toP, List.take_succ_eq_append_getElem h, List.append_assoc]
  rfl

set_option maxHeartbeats 4000000 in
theorem lToS (ao : Option Addr) (l : List DO) (cap : Nat) (hn : l.length ≤ 2000000) (w : World) (h : StR w ao l) :
    Calls Try.prog 47 #[.slice ao l.length cap] w fun e w' => ∃ v, e = .returned v ∧ OwnS w' w.heap.size v l ∧ Below w.heap.size w w' := by
  obtain ⟨iD, hiD, hzD0, hzD1, hzD2⟩ := info_parts infoD
  have hbytes : iD.bytes * l.length ≤ 281474976710656 := by rw [hzD2]; omega
  have hmax : l.length ≤ maxLen := by unfold maxLen; omega
  go_enter Try.func47, Try.ntmps47
  go_wp2_with (first | (at_make; refine wpList_make_full _ rfl _ _ 56 rfl w.heap.size TD iD _ 5 Try.underlying56 hiD hzD0 hzD1 _ _ _ _ l.length rfl rfl rfl rfl hbytes hmax (Nat.le_refl _) ?_))
  intro w1 hown hgrow
  have hS := OwnS.made (N := l.length) hown
  rw [← toP_zero] at hS
  have hb1 : Below w.heap.size w w1 := (Below.refl _ _).grown hgrow (Nat.le_refl _) (fun k hk => by cases hk)
  have hs1 := hb1.size
  have hlt : w.heap.size < w1.heap.size := (World.ownsRow.lt hS w.heap.size rfl).2
  clear hown hgrow
  go_wp2
  go_loopw [4] (fun x wr => ∃ j : Nat, x = .int .i64 j ∧ j ≤ l.length ∧ OwnS wr w.heap.size (.slice (some ⟨w.heap.size, 0, none⟩) l.length l.length) (toP ⟨⟨0, 0, 0, 0⟩, 0⟩ l j) ∧ Below w.heap.size w wr ∧ w.heap.size < wr.heap.size) (fun x _ => l.length - (intOf x).toNat)
  case atStart => exact ⟨0, rfl, Nat.zero_le _, hS, hb1, hlt⟩
  case round =>
    obtain ⟨j, rfl, j0, hS4, hb4, hg4⟩ := hrel
    have hs4 := hb4.size
    by_cases hj : j < l.length
    · obtain ⟨b, o, rfl, hlb, hD⟩ := (h.below hb4) j hj
      obtain ⟨d0, d1, d2, d3, d4⟩ := hD
      have hjP : j < (toP (⟨⟨0, 0, 0, 0⟩, 0⟩ : DO) l j).length := by rw [toP_length _ _ _ j0]; exact hj
      obtain ⟨hD, q7, q8⟩ := hS4.at hjP
      have q9 := fun w2 hb => q8 w2 l[j] hb
      rw [toP_step _ _ hj] at q9
      have q8' := Lib.hid q9
      obtain ⟨x, hx⟩ : ∃ x, x = (toP (⟨⟨0, 0, 0, 0⟩, 0⟩ : DO) l j)[j] := ⟨_, rfl⟩
      rw [← hx] at hD
      obtain ⟨e0, e1, e2, e3, e4⟩ := hD
      clear q8 q9 hS4 hS h hx
      go_wp2_with (go_at_call 123; refine (lToD l[j] _).mono ?_; rintro e wa ⟨rfl, hb⟩; obtain ⟨hc, hf, hz⟩ := bcell hb; (try simp only [World.size_drew, World.cell?_drew, World.frozen?_drew] at hc hf hz); (try simp at hz); (try have kk := fun o => hc (w.heap.size) o (by first | omega | (simp; done) | (simp; omega))); (try have kf := fun o => hf (w.heap.size) o (by first | omega | (simp; done) | (simp; omega))); (try have zz : w.heap.size < wa.heap.size := by omega))
      all_goals go_roundw
      all_goals first
        | exact ⟨j + 1, by go_num, by omega, q8'.out _ (by (repeat (first | with_reducible exact Below.refl _ _ | with_reducible assumption | with_reducible refine Below.setCell ?_ (by first | omega | (simp; done) | (simp; omega)) _ | with_reducible refine Below.alloc ?_ (by first | omega | (simp; done) | (simp; omega)) _ | with_reducible refine Below.drew ?_ | with_reducible refine belowDrewN ?_ _ | with_reducible refine Below.trans ?_ (Below.mono (by assumption) (by first | omega | (simp; done) | (simp; omega)))))), by (repeat (first | with_reducible exact Below.refl _ _ | with_reducible assumption | with_reducible refine Below.setCell ?_ (by first | omega | (simp; done) | (simp; omega)) _ | with_reducible refine Below.alloc ?_ (by first | omega | (simp; done) | (simp; omega)) _ | with_reducible refine Below.drew ?_ | with_reducible refine belowDrewN ?_ _ | with_reducible refine Below.trans ?_ (Below.mono (by assumption) (by first | omega | (simp; done) | (simp; omega))))), (by first | omega | (simp; done) | (simp; omega))⟩
        | (simp [intOf]; omega)
    · rw [toP_end _ _ (by omega)] at hS4
      go_wp2
      go_ret
      exact ⟨_, rfl, hS4, by (repeat (first | with_reducible exact Below.refl _ _ | with_reducible assumption | with_reducible refine Below.setCell ?_ (by first | omega | (simp; done) | (simp; omega)) _ | with_reducible refine Below.alloc ?_ (by first | omega | (simp; done) | (simp; omega)) _ | with_reducible refine Below.drew ?_ | with_reducible refine belowDrewN ?_ _ | with_reducible refine Below.trans ?_ (Below.mono (by assumption) (by first | omega | (simp; done) | (simp; omega)))))⟩

end Go.Proofs.Yteckhaafdojoeaa
