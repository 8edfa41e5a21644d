/- The walks of the arithmetic in Z[omega]: each function returns what the plain Lean function of the same meaning gives, and leaves old memory alone. -/
import Derived.Test.YteckhaafdojoeaaProg
import Derived.Test.YteckhaafdojoeaaW

namespace Go.Proofs.Yteckhaafdojoeaa
open Go.RowKit

theorem sIn (n lo hi : Int) (w : World) :
    Calls Try.prog 102 #[.int .i64 n, .int .i64 lo, .int .i64 hi] w fun e w' => e = .returned (.bool (inR lo hi n)) ∧ w = w' := by
  by_cases h : lo ≤ n
  all_goals
    go_enter Try.func102, Try.ntmps102
    go_wp2
    go_ret
    exact ⟨by simp [inR]; omega, rfl⟩

theorem sNear (n : Int) (w : World) :
    Calls Try.prog 202 #[.int .i64 n] w fun e w' => e = .returned (.bool (inR (-1073741824) 1073741824 n)) ∧ w = w' := by
  go_enter Try.func202, Try.ntmps202
  go_wp2_with (go_at_call 102; refine (sIn _ _ _ _).mono ?_; rintro e w1 ⟨rfl, rfl⟩)
  go_ret
  exact ⟨rfl, rfl⟩

theorem sIsValidZ (a b c d : Int) (w : World) :
    Calls Try.prog 193 #[.agg #[.int .i64 a, .int .i64 b, .int .i64 c, .int .i64 d]] w fun e w' => e = .returned (.bool (Z4.ok ⟨a, b, c, d⟩)) ∧ Below w.heap.size w w' := by
  go_enter Try.func193, Try.ntmps193
  go_wp2_with (go_at_call 202; refine (sNear _ _).mono ?_; rintro e w1 ⟨rfl, rfl⟩)
  all_goals
    go_ret
    exact ⟨by simp [Z4.ok, *], by (repeat (first | exact Below.refl _ _ | refine Below.setCell ?_ (by first | omega | (simp; done) | (simp; omega)) _ | refine Below.alloc ?_ (by first | omega | (simp; done) | (simp; omega)) _ | refine Below.drew ?_ | refine Below.trans ?_ (Below.mono (by assumption) (by first | omega | (simp; done) | (simp; omega)))))⟩

theorem sChk (a b c d : Int) (w : World) :
    Calls Try.prog 195 #[.agg #[.int .i64 a, .int .i64 b, .int .i64 c, .int .i64 d]] w fun e w' => e = .returned (.tuple #[Zv (chkZ ⟨a, b, c, d⟩).1, .bool (chkZ ⟨a, b, c, d⟩).2]) ∧ Below w.heap.size w w' := by
  by_cases hx : Z4.ok ⟨a, b, c, d⟩ = true
  · go_enter Try.func195, Try.ntmps195
    go_wp2_with (first | (go_at_call 193; refine (sIsValidZ _ _ _ _ _).mono ?_; rintro e w1 ⟨rfl, hb⟩; obtain ⟨hc, hf, hz⟩ := bcell hb; (try simp at hz); (try have z0 : w.heap.size < w1.heap.size := by omega); (try have z1 : w.heap.size + 1 < w1.heap.size := by omega); (try have z2 : w.heap.size + 1 + 1 < w1.heap.size := by omega)))
    exact bodyPost_ret (v := .tuple #[.agg #[.int .i64 a, .int .i64 b, .int .i64 c, .int .i64 d], .bool true]) (by simp [results, Try.results195, go_sem, *]) rfl ⟨by simp [chkZ, hx], by (repeat (first | exact Below.refl _ _ | refine Below.setCell ?_ (by first | omega | (simp; done) | (simp; omega)) _ | refine Below.alloc ?_ (by first | omega | (simp; done) | (simp; omega)) _ | refine Below.drew ?_ | refine Below.trans ?_ (Below.mono (by assumption) (by first | omega | (simp; done) | (simp; omega)))))⟩
  · go_enter Try.func195, Try.ntmps195
    go_wp2_with (first | (go_at_call 193; refine (sIsValidZ _ _ _ _ _).mono ?_; rintro e w1 ⟨rfl, hb⟩; obtain ⟨hc, hf, hz⟩ := bcell hb; (try simp at hz); (try have z0 : w.heap.size < w1.heap.size := by omega); (try have z1 : w.heap.size + 1 < w1.heap.size := by omega); (try have z2 : w.heap.size + 1 + 1 < w1.heap.size := by omega)))
    exact bodyPost_ret (v := .tuple #[.agg #[.int .i64 0, .int .i64 0, .int .i64 0, .int .i64 0], .bool false]) (by simp [results, Try.results195, go_sem, *]) rfl ⟨by simp [chkZ, hx], by (repeat (first | exact Below.refl _ _ | refine Below.setCell ?_ (by first | omega | (simp; done) | (simp; omega)) _ | refine Below.alloc ?_ (by first | omega | (simp; done) | (simp; omega)) _ | refine Below.drew ?_ | refine Below.trans ?_ (Below.mono (by assumption) (by first | omega | (simp; done) | (simp; omega)))))⟩

set_option maxHeartbeats 2000000 in
theorem sAddZ (a b c d a' b' c' d' : Int) (w : World) :
    Calls Try.prog 172 #[.agg #[.int .i64 a, .int .i64 b, .int .i64 c, .int .i64 d], .agg #[.int .i64 a', .int .i64 b', .int .i64 c', .int .i64 d']] w fun e w' => e = .returned (.tuple #[Zv (addZ ⟨a, b, c, d⟩ ⟨a', b', c', d'⟩).1, .bool (addZ ⟨a, b, c, d⟩ ⟨a', b', c', d'⟩).2]) ∧ Below w.heap.size w w' := by
  by_cases hx : Z4.ok ⟨a, b, c, d⟩ = true
  · by_cases hy : Z4.ok ⟨a', b', c', d'⟩ = true
    · obtain ⟨⟨x1, x2⟩, ⟨x3, x4⟩, ⟨x5, x6⟩, ⟨x7, x8⟩⟩ := (Z4.ok_iff _).1 hx
      dsimp only at x1 x2 x3 x4 x5 x6 x7 x8
      obtain ⟨⟨y1, y2⟩, ⟨y3, y4⟩, ⟨y5, y6⟩, ⟨y7, y8⟩⟩ := (Z4.ok_iff _).1 hy
      dsimp only at y1 y2 y3 y4 y5 y6 y7 y8
      go_enter Try.func172, Try.ntmps172
      go_wp2_with (first | (go_at_call 193; refine (sIsValidZ _ _ _ _ _).mono ?_; rintro e w1 ⟨rfl, hb⟩; obtain ⟨hc, hf, hz⟩ := bcell hb; (try simp at hz); (try have z0 : w.heap.size < w1.heap.size := by omega); (try have z1 : w.heap.size + 1 < w1.heap.size := by omega); (try have z2 : w.heap.size + 1 + 1 < w1.heap.size := by omega)) | (go_at_call 195; refine (sChk _ _ _ _ _).mono ?_; rintro e w1 ⟨rfl, hb⟩; obtain ⟨hc, hf, hz⟩ := bcell hb; (try simp at hz); (try have z0 : w.heap.size < w1.heap.size := by omega); (try have z1 : w.heap.size + 1 < w1.heap.size := by omega); (try have z2 : w.heap.size + 1 + 1 < w1.heap.size := by omega)))
      exact bodyPost_ret (v := .tuple #[Zv (chkZ ⟨a + a', b + b', c + c', d + d'⟩).1, .bool (chkZ ⟨a + a', b + b', c + c', d + d'⟩).2]) (by simp [results, Try.results172, go_sem, *]) rfl ⟨by simp [addZ, hx, hy], by (repeat (first | exact Below.refl _ _ | refine Below.setCell ?_ (by first | omega | (simp; done) | (simp; omega)) _ | refine Below.alloc ?_ (by first | omega | (simp; done) | (simp; omega)) _ | refine Below.drew ?_ | refine Below.trans ?_ (Below.mono (by assumption) (by first | omega | (simp; done) | (simp; omega)))))⟩
    · go_enter Try.func172, Try.ntmps172
      go_wp2_with (first | (go_at_call 193; refine (sIsValidZ _ _ _ _ _).mono ?_; rintro e w1 ⟨rfl, hb⟩; obtain ⟨hc, hf, hz⟩ := bcell hb; (try simp at hz); (try have z0 : w.heap.size < w1.heap.size := by omega); (try have z1 : w.heap.size + 1 < w1.heap.size := by omega); (try have z2 : w.heap.size + 1 + 1 < w1.heap.size := by omega)) | (go_at_call 195; refine (sChk _ _ _ _ _).mono ?_; rintro e w1 ⟨rfl, hb⟩; obtain ⟨hc, hf, hz⟩ := bcell hb; (try simp at hz); (try have z0 : w.heap.size < w1.heap.size := by omega); (try have z1 : w.heap.size + 1 < w1.heap.size := by omega); (try have z2 : w.heap.size + 1 + 1 < w1.heap.size := by omega)))
      exact bodyPost_ret (v := .tuple #[.agg #[.int .i64 0, .int .i64 0, .int .i64 0, .int .i64 0], .bool false]) (by simp [results, Try.results172, go_sem, *]) rfl ⟨by simp [addZ, hx, hy], by (repeat (first | exact Below.refl _ _ | refine Below.setCell ?_ (by first | omega | (simp; done) | (simp; omega)) _ | refine Below.alloc ?_ (by first | omega | (simp; done) | (simp; omega)) _ | refine Below.drew ?_ | refine Below.trans ?_ (Below.mono (by assumption) (by first | omega | (simp; done) | (simp; omega)))))⟩
  · go_enter Try.func172, Try.ntmps172
    go_wp2_with (first | (go_at_call 193; refine (sIsValidZ _ _ _ _ _).mono ?_; rintro e w1 ⟨rfl, hb⟩; obtain ⟨hc, hf, hz⟩ := bcell hb; (try simp at hz); (try have z0 : w.heap.size < w1.heap.size := by omega); (try have z1 : w.heap.size + 1 < w1.heap.size := by omega); (try have z2 : w.heap.size + 1 + 1 < w1.heap.size := by omega)) | (go_at_call 195; refine (sChk _ _ _ _ _).mono ?_; rintro e w1 ⟨rfl, hb⟩; obtain ⟨hc, hf, hz⟩ := bcell hb; (try simp at hz); (try have z0 : w.heap.size < w1.heap.size := by omega); (try have z1 : w.heap.size + 1 < w1.heap.size := by omega); (try have z2 : w.heap.size + 1 + 1 < w1.heap.size := by omega)))
    exact bodyPost_ret (v := .tuple #[.agg #[.int .i64 0, .int .i64 0, .int .i64 0, .int .i64 0], .bool false]) (by simp [results, Try.results172, go_sem, *]) rfl ⟨by simp [addZ, hx], by (repeat (first | exact Below.refl _ _ | refine Below.setCell ?_ (by first | omega | (simp; done) | (simp; omega)) _ | refine Below.alloc ?_ (by first | omega | (simp; done) | (simp; omega)) _ | refine Below.drew ?_ | refine Below.trans ?_ (Below.mono (by assumption) (by first | omega | (simp; done) | (simp; omega)))))⟩

set_option maxHeartbeats 2000000 in
theorem sMulZ (a b c d a' b' c' d' : Int) (w : World) :
    Calls Try.prog 169 #[.agg #[.int .i64 a, .int .i64 b, .int .i64 c, .int .i64 d], .agg #[.int .i64 a', .int .i64 b', .int .i64 c', .int .i64 d']] w fun e w' => e = .returned (.tuple #[Zv (mulZ ⟨a, b, c, d⟩ ⟨a', b', c', d'⟩).1, .bool (mulZ ⟨a, b, c, d⟩ ⟨a', b', c', d'⟩).2]) ∧ Below w.heap.size w w' := by
  by_cases hx : Z4.ok ⟨a, b, c, d⟩ = true
  · by_cases hy : Z4.ok ⟨a', b', c', d'⟩ = true
    · obtain ⟨⟨x1, x2⟩, ⟨x3, x4⟩, ⟨x5, x6⟩, ⟨x7, x8⟩⟩ := (Z4.ok_iff _).1 hx
      dsimp only at x1 x2 x3 x4 x5 x6 x7 x8
      obtain ⟨⟨y1, y2⟩, ⟨y3, y4⟩, ⟨y5, y6⟩, ⟨y7, y8⟩⟩ := (Z4.ok_iff _).1 hy
      dsimp only at y1 y2 y3 y4 y5 y6 y7 y8
      have q1 := mulB x1 x2 x3 x4 x5 x6 x7 x8 y1 y2 y3 y4 y5 y6 y7 y8
      obtain ⟨⟨m1, n1⟩, ⟨m2, n2⟩, ⟨m3, n3⟩, ⟨m4, n4⟩, ⟨m5, n5⟩, ⟨m6, n6⟩, ⟨m7, n7⟩, ⟨m8, n8⟩, ⟨m9, n9⟩, ⟨m10, n10⟩, ⟨m11, n11⟩, ⟨m12, n12⟩, ⟨m13, n13⟩, ⟨m14, n14⟩, ⟨m15, n15⟩, ⟨m16, n16⟩⟩ := q1
      go_enter Try.func169, Try.ntmps169
      go_wp2_with (first | (go_at_call 193; refine (sIsValidZ _ _ _ _ _).mono ?_; rintro e w1 ⟨rfl, hb⟩; obtain ⟨hc, hf, hz⟩ := bcell hb; (try simp at hz); (try have z0 : w.heap.size < w1.heap.size := by omega); (try have z1 : w.heap.size + 1 < w1.heap.size := by omega); (try have z2 : w.heap.size + 1 + 1 < w1.heap.size := by omega)) | (go_at_call 195; refine (sChk _ _ _ _ _).mono ?_; rintro e w1 ⟨rfl, hb⟩; obtain ⟨hc, hf, hz⟩ := bcell hb; (try simp at hz); (try have z0 : w.heap.size < w1.heap.size := by omega); (try have z1 : w.heap.size + 1 < w1.heap.size := by omega); (try have z2 : w.heap.size + 1 + 1 < w1.heap.size := by omega)))
      exact bodyPost_ret (v := .tuple #[Zv (chkZ ⟨a * a' - b * d' - c * c' - d * b', a * b' + b * a' - c * d' - d * c', a * c' + b * b' + c * a' - d * d', a * d' + b * c' + c * b' + d * a'⟩).1, .bool (chkZ ⟨a * a' - b * d' - c * c' - d * b', a * b' + b * a' - c * d' - d * c', a * c' + b * b' + c * a' - d * d', a * d' + b * c' + c * b' + d * a'⟩).2]) (by simp [results, Try.results169, go_sem, *]) rfl ⟨by simp [mulZ, hx, hy, mulRaw], by (repeat (first | exact Below.refl _ _ | refine Below.setCell ?_ (by first | omega | (simp; done) | (simp; omega)) _ | refine Below.alloc ?_ (by first | omega | (simp; done) | (simp; omega)) _ | refine Below.drew ?_ | refine Below.trans ?_ (Below.mono (by assumption) (by first | omega | (simp; done) | (simp; omega)))))⟩
    · go_enter Try.func169, Try.ntmps169
      go_wp2_with (first | (go_at_call 193; refine (sIsValidZ _ _ _ _ _).mono ?_; rintro e w1 ⟨rfl, hb⟩; obtain ⟨hc, hf, hz⟩ := bcell hb; (try simp at hz); (try have z0 : w.heap.size < w1.heap.size := by omega); (try have z1 : w.heap.size + 1 < w1.heap.size := by omega); (try have z2 : w.heap.size + 1 + 1 < w1.heap.size := by omega)) | (go_at_call 195; refine (sChk _ _ _ _ _).mono ?_; rintro e w1 ⟨rfl, hb⟩; obtain ⟨hc, hf, hz⟩ := bcell hb; (try simp at hz); (try have z0 : w.heap.size < w1.heap.size := by omega); (try have z1 : w.heap.size + 1 < w1.heap.size := by omega); (try have z2 : w.heap.size + 1 + 1 < w1.heap.size := by omega)))
      exact bodyPost_ret (v := .tuple #[.agg #[.int .i64 0, .int .i64 0, .int .i64 0, .int .i64 0], .bool false]) (by simp [results, Try.results169, go_sem, *]) rfl ⟨by simp [mulZ, hx, hy], by (repeat (first | exact Below.refl _ _ | refine Below.setCell ?_ (by first | omega | (simp; done) | (simp; omega)) _ | refine Below.alloc ?_ (by first | omega | (simp; done) | (simp; omega)) _ | refine Below.drew ?_ | refine Below.trans ?_ (Below.mono (by assumption) (by first | omega | (simp; done) | (simp; omega)))))⟩
  · go_enter Try.func169, Try.ntmps169
    go_wp2_with (first | (go_at_call 193; refine (sIsValidZ _ _ _ _ _).mono ?_; rintro e w1 ⟨rfl, hb⟩; obtain ⟨hc, hf, hz⟩ := bcell hb; (try simp at hz); (try have z0 : w.heap.size < w1.heap.size := by omega); (try have z1 : w.heap.size + 1 < w1.heap.size := by omega); (try have z2 : w.heap.size + 1 + 1 < w1.heap.size := by omega)) | (go_at_call 195; refine (sChk _ _ _ _ _).mono ?_; rintro e w1 ⟨rfl, hb⟩; obtain ⟨hc, hf, hz⟩ := bcell hb; (try simp at hz); (try have z0 : w.heap.size < w1.heap.size := by omega); (try have z1 : w.heap.size + 1 < w1.heap.size := by omega); (try have z2 : w.heap.size + 1 + 1 < w1.heap.size := by omega)))
    exact bodyPost_ret (v := .tuple #[.agg #[.int .i64 0, .int .i64 0, .int .i64 0, .int .i64 0], .bool false]) (by simp [results, Try.results169, go_sem, *]) rfl ⟨by simp [mulZ, hx], by (repeat (first | exact Below.refl _ _ | refine Below.setCell ?_ (by first | omega | (simp; done) | (simp; omega)) _ | refine Below.alloc ?_ (by first | omega | (simp; done) | (simp; omega)) _ | refine Below.drew ?_ | refine Below.trans ?_ (Below.mono (by assumption) (by first | omega | (simp; done) | (simp; omega)))))⟩

theorem sNegZ (a b c d : Int) (w : World) :
    Calls Try.prog 194 #[.agg #[.int .i64 a, .int .i64 b, .int .i64 c, .int .i64 d]] w fun e w' => e = .returned (Zv (negZ ⟨a, b, c, d⟩)) ∧ Below w.heap.size w w' := by
  by_cases hx : Z4.ok ⟨a, b, c, d⟩ = true
  · obtain ⟨⟨x1, x2⟩, ⟨x3, x4⟩, ⟨x5, x6⟩, ⟨x7, x8⟩⟩ := (Z4.ok_iff _).1 hx
    dsimp only at x1 x2 x3 x4 x5 x6 x7 x8
    go_enter Try.func194, Try.ntmps194
    go_wp2_with (first | (go_at_call 193; refine (sIsValidZ _ _ _ _ _).mono ?_; rintro e w1 ⟨rfl, hb⟩; obtain ⟨hc, hf, hz⟩ := bcell hb; (try simp at hz); (try have z0 : w.heap.size < w1.heap.size := by omega); (try have z1 : w.heap.size + 1 < w1.heap.size := by omega); (try have z2 : w.heap.size + 1 + 1 < w1.heap.size := by omega)))
    exact bodyPost_ret (v := .agg #[.int .i64 (-a), .int .i64 (-b), .int .i64 (-c), .int .i64 (-d)]) (by simp [results, Try.results194, go_sem, *]) rfl ⟨by simp [negZ, hx], by (repeat (first | exact Below.refl _ _ | refine Below.setCell ?_ (by first | omega | (simp; done) | (simp; omega)) _ | refine Below.alloc ?_ (by first | omega | (simp; done) | (simp; omega)) _ | refine Below.drew ?_ | refine Below.trans ?_ (Below.mono (by assumption) (by first | omega | (simp; done) | (simp; omega)))))⟩
  · go_enter Try.func194, Try.ntmps194
    go_wp2_with (first | (go_at_call 193; refine (sIsValidZ _ _ _ _ _).mono ?_; rintro e w1 ⟨rfl, hb⟩; obtain ⟨hc, hf, hz⟩ := bcell hb; (try simp at hz); (try have z0 : w.heap.size < w1.heap.size := by omega); (try have z1 : w.heap.size + 1 < w1.heap.size := by omega); (try have z2 : w.heap.size + 1 + 1 < w1.heap.size := by omega)))
    exact bodyPost_ret (v := .agg #[.int .i64 0, .int .i64 0, .int .i64 0, .int .i64 0]) (by simp [results, Try.results194, go_sem, *]) rfl ⟨by simp [negZ, hx], by (repeat (first | exact Below.refl _ _ | refine Below.setCell ?_ (by first | omega | (simp; done) | (simp; omega)) _ | refine Below.alloc ?_ (by first | omega | (simp; done) | (simp; omega)) _ | refine Below.drew ?_ | refine Below.trans ?_ (Below.mono (by assumption) (by first | omega | (simp; done) | (simp; omega)))))⟩

theorem sConjZ (a b c d : Int) (w : World) :
    Calls Try.prog 182 #[.agg #[.int .i64 a, .int .i64 b, .int .i64 c, .int .i64 d]] w fun e w' => e = .returned (Zv (conjZ ⟨a, b, c, d⟩)) ∧ Below w.heap.size w w' := by
  by_cases hx : Z4.ok ⟨a, b, c, d⟩ = true
  · obtain ⟨⟨x1, x2⟩, ⟨x3, x4⟩, ⟨x5, x6⟩, ⟨x7, x8⟩⟩ := (Z4.ok_iff _).1 hx
    dsimp only at x1 x2 x3 x4 x5 x6 x7 x8
    go_enter Try.func182, Try.ntmps182
    go_wp2_with (first | (go_at_call 193; refine (sIsValidZ _ _ _ _ _).mono ?_; rintro e w1 ⟨rfl, hb⟩; obtain ⟨hc, hf, hz⟩ := bcell hb; (try simp at hz); (try have z0 : w.heap.size < w1.heap.size := by omega); (try have z1 : w.heap.size + 1 < w1.heap.size := by omega); (try have z2 : w.heap.size + 1 + 1 < w1.heap.size := by omega)))
    exact bodyPost_ret (v := .agg #[.int .i64 a, .int .i64 (-d), .int .i64 (-c), .int .i64 (-b)]) (by simp [results, Try.results182, go_sem, *]) rfl ⟨by simp [conjZ, hx], by (repeat (first | exact Below.refl _ _ | refine Below.setCell ?_ (by first | omega | (simp; done) | (simp; omega)) _ | refine Below.alloc ?_ (by first | omega | (simp; done) | (simp; omega)) _ | refine Below.drew ?_ | refine Below.trans ?_ (Below.mono (by assumption) (by first | omega | (simp; done) | (simp; omega)))))⟩
  · go_enter Try.func182, Try.ntmps182
    go_wp2_with (first | (go_at_call 193; refine (sIsValidZ _ _ _ _ _).mono ?_; rintro e w1 ⟨rfl, hb⟩; obtain ⟨hc, hf, hz⟩ := bcell hb; (try simp at hz); (try have z0 : w.heap.size < w1.heap.size := by omega); (try have z1 : w.heap.size + 1 < w1.heap.size := by omega); (try have z2 : w.heap.size + 1 + 1 < w1.heap.size := by omega)))
    exact bodyPost_ret (v := .agg #[.int .i64 0, .int .i64 0, .int .i64 0, .int .i64 0]) (by simp [results, Try.results182, go_sem, *]) rfl ⟨by simp [conjZ, hx], by (repeat (first | exact Below.refl _ _ | refine Below.setCell ?_ (by first | omega | (simp; done) | (simp; omega)) _ | refine Below.alloc ?_ (by first | omega | (simp; done) | (simp; omega)) _ | refine Below.drew ?_ | refine Below.trans ?_ (Below.mono (by assumption) (by first | omega | (simp; done) | (simp; omega)))))⟩

end Go.Proofs.Yteckhaafdojoeaa