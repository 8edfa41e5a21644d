/- The walks of the arithmetic in D[omega], first part. -/
import Derived.Test.YteckhaafdojoeaaB
namespace Go.Proofs.Yteckhaafdojoeaa
open Go.RowKit

set_option maxHeartbeats 4000000 in
theorem sDivZ (a b c d : Int) (w : World) :
    Calls Try.prog 192 #[.agg #[.int .i64 a, .int .i64 b, .int .i64 c, .int .i64 d]] w fun e w' => e = .returned (.tuple #[Zv (divZ ⟨a, b, c, d⟩).1, .bool (divZ ⟨a, b, c, d⟩).2]) ∧ Below w.heap.size w w' := by
  by_cases hx : Z4.ok ⟨a, b, c, d⟩ = true
  · obtain ⟨⟨x1, x2⟩, ⟨x3, x4⟩, ⟨x5, x6⟩, ⟨x7, x8⟩⟩ := (Z4.ok_iff _).1 hx
    dsimp only at x1 x2 x3 x4 x5 x6 x7 x8
    by_cases e0 : evn (b - d) = true
    · by_cases e1 : evn (a + c) = true
      · by_cases e2 : evn (b + d) = true
        · by_cases e3 : evn (c - a) = true
          · obtain ⟨t0, q0⟩ := evn_facts e0
            obtain ⟨t1, q1⟩ := evn_facts e1
            obtain ⟨t2, q2⟩ := evn_facts e2
            obtain ⟨t3, q3⟩ := evn_facts e3
            have hd : divE ⟨a, b, c, d⟩ = true := by simp [divE, e0, e1, e2, e3]
            go_enter Try.func192, Try.ntmps192
            go_wp2_with (first | (go_at_call 193; refine (sIsValidZ _ _ _ _ _).mono ?_; rintro e w1 ⟨rfl, hb⟩; obtain ⟨hc, hf, hz⟩ := bcell hb; (try simp at hz); (try have z0 : w.heap.size < w1.heap.size := by omega); (try have z1 : w.heap.size + 1 < w1.heap.size := by omega); (try have z2 : w.heap.size + 1 + 1 < w1.heap.size := by omega)))
            exact bodyPost_ret (v := .tuple #[.agg #[.int .i64 ((b - d) / 2), .int .i64 ((a + c) / 2), .int .i64 ((b + d) / 2), .int .i64 ((c - a) / 2)], .bool true]) (by simp [results, Try.results192, go_sem, *]) rfl ⟨by simp [divZ, hx, hd], by (repeat (first | exact Below.refl _ _ | refine Below.setCell ?_ (by first | omega | (simp; done) | (simp; omega)) _ | refine Below.alloc ?_ (by first | omega | (simp; done) | (simp; omega)) _ | refine Below.drew ?_ | refine Below.trans ?_ (Below.mono (by assumption) (by first | omega | (simp; done) | (simp; omega)))))⟩
          · have o1 := (odd_facts (by simpa using e3)).1
            have o2 := (odd_facts (by simpa using e3)).2
            obtain ⟨t0, q0⟩ := evn_facts e0
            obtain ⟨t1, q1⟩ := evn_facts e1
            obtain ⟨t2, q2⟩ := evn_facts e2
            have hd : divE ⟨a, b, c, d⟩ = false := by simp [divE, e0, e1, e2, e3]
            go_enter Try.func192, Try.ntmps192
            go_wp2_with (first | (go_at_call 193; refine (sIsValidZ _ _ _ _ _).mono ?_; rintro e w1 ⟨rfl, hb⟩; obtain ⟨hc, hf, hz⟩ := bcell hb; (try simp at hz); (try have z0 : w.heap.size < w1.heap.size := by omega); (try have z1 : w.heap.size + 1 < w1.heap.size := by omega); (try have z2 : w.heap.size + 1 + 1 < w1.heap.size := by omega)))
            exact bodyPost_ret (v := .tuple #[.agg #[.int .i64 0, .int .i64 0, .int .i64 0, .int .i64 0], .bool false]) (by simp [results, Try.results192, go_sem, *]) rfl ⟨by simp [divZ, hd], by (repeat (first | exact Below.refl _ _ | refine Below.setCell ?_ (by first | omega | (simp; done) | (simp; omega)) _ | refine Below.alloc ?_ (by first | omega | (simp; done) | (simp; omega)) _ | refine Below.drew ?_ | refine Below.trans ?_ (Below.mono (by assumption) (by first | omega | (simp; done) | (simp; omega)))))⟩
        · have o1 := (odd_facts (by simpa using e2)).1
          have o2 := (odd_facts (by simpa using e2)).2
          obtain ⟨t0, q0⟩ := evn_facts e0
          obtain ⟨t1, q1⟩ := evn_facts e1
          have hd : divE ⟨a, b, c, d⟩ = false := by simp [divE, e0, e1, e2]
          go_enter Try.func192, Try.ntmps192
          go_wp2_with (first | (go_at_call 193; refine (sIsValidZ _ _ _ _ _).mono ?_; rintro e w1 ⟨rfl, hb⟩; obtain ⟨hc, hf, hz⟩ := bcell hb; (try simp at hz); (try have z0 : w.heap.size < w1.heap.size := by omega); (try have z1 : w.heap.size + 1 < w1.heap.size := by omega); (try have z2 : w.heap.size + 1 + 1 < w1.heap.size := by omega)))
          exact bodyPost_ret (v := .tuple #[.agg #[.int .i64 0, .int .i64 0, .int .i64 0, .int .i64 0], .bool false]) (by simp [results, Try.results192, go_sem, *]) rfl ⟨by simp [divZ, hd], by (repeat (first | exact Below.refl _ _ | refine Below.setCell ?_ (by first | omega | (simp; done) | (simp; omega)) _ | refine Below.alloc ?_ (by first | omega | (simp; done) | (simp; omega)) _ | refine Below.drew ?_ | refine Below.trans ?_ (Below.mono (by assumption) (by first | omega | (simp; done) | (simp; omega)))))⟩
      · have o1 := (odd_facts (by simpa using e1)).1
        have o2 := (odd_facts (by simpa using e1)).2
        obtain ⟨t0, q0⟩ := evn_facts e0
        have hd : divE ⟨a, b, c, d⟩ = false := by simp [divE, e0, e1]
        go_enter Try.func192, Try.ntmps192
        go_wp2_with (first | (go_at_call 193; refine (sIsValidZ _ _ _ _ _).mono ?_; rintro e w1 ⟨rfl, hb⟩; obtain ⟨hc, hf, hz⟩ := bcell hb; (try simp at hz); (try have z0 : w.heap.size < w1.heap.size := by omega); (try have z1 : w.heap.size + 1 < w1.heap.size := by omega); (try have z2 : w.heap.size + 1 + 1 < w1.heap.size := by omega)))
        exact bodyPost_ret (v := .tuple #[.agg #[.int .i64 0, .int .i64 0, .int .i64 0, .int .i64 0], .bool false]) (by simp [results, Try.results192, go_sem, *]) rfl ⟨by simp [divZ, hd], by (repeat (first | exact Below.refl _ _ | refine Below.setCell ?_ (by first | omega | (simp; done) | (simp; omega)) _ | refine Below.alloc ?_ (by first | omega | (simp; done) | (simp; omega)) _ | refine Below.drew ?_ | refine Below.trans ?_ (Below.mono (by assumption) (by first | omega | (simp; done) | (simp; omega)))))⟩
    · have o1 := (odd_facts (by simpa using e0)).1
      have o2 := (odd_facts (by simpa using e0)).2
      have hd : divE ⟨a, b, c, d⟩ = false := by simp [divE, e0]
      go_enter Try.func192, Try.ntmps192
      go_wp2_with (first | (go_at_call 193; refine (sIsValidZ _ _ _ _ _).mono ?_; rintro e w1 ⟨rfl, hb⟩; obtain ⟨hc, hf, hz⟩ := bcell hb; (try simp at hz); (try have z0 : w.heap.size < w1.heap.size := by omega); (try have z1 : w.heap.size + 1 < w1.heap.size := by omega); (try have z2 : w.heap.size + 1 + 1 < w1.heap.size := by omega)))
      exact bodyPost_ret (v := .tuple #[.agg #[.int .i64 0, .int .i64 0, .int .i64 0, .int .i64 0], .bool false]) (by simp [results, Try.results192, go_sem, *]) rfl ⟨by simp [divZ, hd], by (repeat (first | exact Below.refl _ _ | refine Below.setCell ?_ (by first | omega | (simp; done) | (simp; omega)) _ | refine Below.alloc ?_ (by first | omega | (simp; done) | (simp; omega)) _ | refine Below.drew ?_ | refine Below.trans ?_ (Below.mono (by assumption) (by first | omega | (simp; done) | (simp; omega)))))⟩
  · go_enter Try.func192, Try.ntmps192
    go_wp2_with (first | (go_at_call 193; refine (sIsValidZ _ _ _ _ _).mono ?_; rintro e w1 ⟨rfl, hb⟩; obtain ⟨hc, hf, hz⟩ := bcell hb; (try simp at hz); (try have z0 : w.heap.size < w1.heap.size := by omega); (try have z1 : w.heap.size + 1 < w1.heap.size := by omega); (try have z2 : w.heap.size + 1 + 1 < w1.heap.size := by omega)))
    exact bodyPost_ret (v := .tuple #[.agg #[.int .i64 0, .int .i64 0, .int .i64 0, .int .i64 0], .bool false]) (by simp [results, Try.results192, go_sem, *]) rfl ⟨by simp [divZ, hx], by (repeat (first | exact Below.refl _ _ | refine Below.setCell ?_ (by first | omega | (simp; done) | (simp; omega)) _ | refine Below.alloc ?_ (by first | omega | (simp; done) | (simp; omega)) _ | refine Below.drew ?_ | refine Below.trans ?_ (Below.mono (by assumption) (by first | omega | (simp; done) | (simp; omega)))))⟩

end Go.Proofs.Yteckhaafdojoeaa