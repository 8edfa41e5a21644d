/- The laws' helpers: sizes, copies and comparisons of numbers. -/
import Derived.Test.YteckhaafdojoeaaS20
namespace Go.Proofs.Yteckhaafdojoeaa
open Go.RowKit

set_option maxHeartbeats 4000000 in
theorem lSzS (ao : Option Addr) (n cap : Nat) (left : Int) (h0 : 0 ≤ left) (h1 : left ≤ 1048576) (hn : n ≤ 9223372036854775807) (w : World) :
    Calls Try.prog 44 #[.slice ao n cap, .int .i64 left] w fun e w' => e = .returned (.int .i64 (if left - n < 0 then -1 else left - n)) ∧ w = w' := by
  by_cases h : left - (n : Int) < 0
  · rw [if_pos h]
    go_enter Try.func44, Try.ntmps44
    go_wp2
    go_ret
    exact ⟨rfl, rfl⟩
  · rw [if_neg h]
    go_enter Try.func44, Try.ntmps44
    go_wp2
    go_ret
    exact ⟨by go_num, rfl⟩

set_option maxHeartbeats 4000000 in
theorem lToZ (a b c d : Int) (w : World) :
    Calls Try.prog 173 #[.agg #[.int .i64 a, .int .i64 b, .int .i64 c, .int .i64 d]] w fun e w' => e = .returned (.agg #[.int .i64 a, .int .i64 b, .int .i64 c, .int .i64 d]) ∧ Below w.heap.size w w' := by
  go_enter Try.func173, Try.ntmps173
  go_wp2
  exact bodyPost_ret (v := .agg #[.int .i64 a, .int .i64 b, .int .i64 c, .int .i64 d]) (by simp [results, Try.results173, go_sem, *]) rfl ⟨rfl, by (repeat (first | with_reducible exact Below.refl _ _ | with_reducible assumption | with_reducible refine Below.setCell ?_ (by first | omega | (simp; done) | (simp; omega)) _ | with_reducible refine Below.alloc ?_ (by first | omega | (simp; done) | (simp; omega)) _ | with_reducible refine Below.drew ?_ | with_reducible refine belowDrewN ?_ _ | with_reducible refine Below.trans ?_ (Below.mono (by assumption) (by first | omega | (simp; done) | (simp; omega)))))⟩

set_option maxHeartbeats 4000000 in
theorem lToD (x : DO) (w : World) :
    Calls Try.prog 123 #[Dv x] w fun e w' => e = .returned (Dv x) ∧ Below w.heap.size w w' := by
  obtain ⟨⟨a, b, c, d⟩, k⟩ := x
  go_enter Try.func123, Try.ntmps123
  go_wp2_with (go_at_call 173; refine (lToZ a b c d _).mono ?_; rintro e w1 ⟨rfl, hb⟩; obtain ⟨hc, hf, hz⟩ := bcell hb; (try simp only [World.size_drew, World.cell?_drew, World.frozen?_drew] at hc hf hz); (try simp at hz); (try have kk := fun o => hc (w.heap.size) o (by first | omega | (simp; done) | (simp; omega))); (try have kf := fun o => hf (w.heap.size) o (by first | omega | (simp; done) | (simp; omega))); (try have zz : w.heap.size < w1.heap.size := by omega); (try have kk := fun o => hc (w.heap.size + 1) o (by first | omega | (simp; done) | (simp; omega))); (try have kf := fun o => hf (w.heap.size + 1) o (by first | omega | (simp; done) | (simp; omega))); (try have zz : w.heap.size + 1 < w1.heap.size := by omega); (try have kk := fun o => hc (w.heap.size + 1 + 1) o (by first | omega | (simp; done) | (simp; omega))); (try have kf := fun o => hf (w.heap.size + 1 + 1) o (by first | omega | (simp; done) | (simp; omega))); (try have zz : w.heap.size + 1 + 1 < w1.heap.size := by omega))
  exact bodyPost_ret (v := .agg #[.int .i64 a, .int .i64 b, .int .i64 c, .int .i64 d, .int .i64 k]) (by simp [results, Try.results123, go_sem, *]) rfl ⟨rfl, by (repeat (first | with_reducible exact Below.refl _ _ | with_reducible assumption | with_reducible refine Below.setCell ?_ (by first | omega | (simp; done) | (simp; omega)) _ | with_reducible refine Below.alloc ?_ (by first | omega | (simp; done) | (simp; omega)) _ | with_reducible refine Below.drew ?_ | with_reducible refine belowDrewN ?_ _ | with_reducible refine Below.trans ?_ (Below.mono (by assumption) (by first | omega | (simp; done) | (simp; omega)))))⟩

set_option maxHeartbeats 4000000 in
theorem lEqZ (a b c d : Int) (w : World) :
    Calls Try.prog 178 #[.agg #[.int .i64 a, .int .i64 b, .int .i64 c, .int .i64 d], .agg #[.int .i64 a, .int .i64 b, .int .i64 c, .int .i64 d]] w fun e w' => e = .returned (.bool true) ∧ Below w.heap.size w w' := by
  go_enter Try.func178, Try.ntmps178
  go_wp2
  go_ret
  exact ⟨rfl, by (repeat (first | with_reducible exact Below.refl _ _ | with_reducible assumption | with_reducible refine Below.setCell ?_ (by first | omega | (simp; done) | (simp; omega)) _ | with_reducible refine Below.alloc ?_ (by first | omega | (simp; done) | (simp; omega)) _ | with_reducible refine Below.drew ?_ | with_reducible refine belowDrewN ?_ _ | with_reducible refine Below.trans ?_ (Below.mono (by assumption) (by first | omega | (simp; done) | (simp; omega)))))⟩

set_option maxHeartbeats 4000000 in
theorem lEqD (x : DO) (w : World) :
    Calls Try.prog 131 #[Dv x, Dv x] w fun e w' => e = .returned (.bool true) ∧ Below w.heap.size w w' := by
  obtain ⟨⟨a, b, c, d⟩, k⟩ := x
  go_enter Try.func131, Try.ntmps131
  go_wp2_with (go_at_call 178; refine (lEqZ a b c d _).mono ?_; rintro e w1 ⟨rfl, hb⟩; obtain ⟨hc, hf, hz⟩ := bcell hb; (try simp only [World.size_drew, World.cell?_drew, World.frozen?_drew] at hc hf hz); (try simp at hz); (try have kk := fun o => hc (w.heap.size) o (by first | omega | (simp; done) | (simp; omega))); (try have kf := fun o => hf (w.heap.size) o (by first | omega | (simp; done) | (simp; omega))); (try have zz : w.heap.size < w1.heap.size := by omega); (try have kk := fun o => hc (w.heap.size + 1) o (by first | omega | (simp; done) | (simp; omega))); (try have kf := fun o => hf (w.heap.size + 1) o (by first | omega | (simp; done) | (simp; omega))); (try have zz : w.heap.size + 1 < w1.heap.size := by omega))
  go_ret
  exact ⟨rfl, by (repeat (first | with_reducible exact Below.refl _ _ | with_reducible assumption | with_reducible refine Below.setCell ?_ (by first | omega | (simp; done) | (simp; omega)) _ | with_reducible refine Below.alloc ?_ (by first | omega | (simp; done) | (simp; omega)) _ | with_reducible refine Below.drew ?_ | with_reducible refine belowDrewN ?_ _ | with_reducible refine Below.trans ?_ (Below.mono (by assumption) (by first | omega | (simp; done) | (simp; omega)))))⟩

end Go.Proofs.Yteckhaafdojoeaa
