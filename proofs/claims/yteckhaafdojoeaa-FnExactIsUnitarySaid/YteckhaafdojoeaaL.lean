/- The walks of the arithmetic in D[omega], fourth part. -/
import Derived.Test.YteckhaafdojoeaaH
import Derived.Test.YteckhaafdojoeaaW2
namespace Go.Proofs.Yteckhaafdojoeaa
open Go.RowKit

set_option maxHeartbeats 4000000 in
theorem sNegD (a b c d k : Int) (w : World) :
    Calls Try.prog 168 #[.agg #[.int .i64 a, .int .i64 b, .int .i64 c, .int .i64 d, .int .i64 k]] w fun e w' => e = .returned (Dv (negD ⟨⟨a, b, c, d⟩, k⟩)) ∧ Below w.heap.size w w' := by
  by_cases hx : DO.ok ⟨⟨a, b, c, d⟩, k⟩ = true
  · go_enter Try.func168, Try.ntmps168
    go_wp2_with fail
    refine (sIsValidD _ _ _ _ _ _).mono ?_
    rintro e w1 ⟨rfl, hb1⟩
    obtain ⟨hc1, hf1, hz1⟩ := bcell hb1
    try simp at hz1
    (try have z1_0 : w.heap.size < w1.heap.size := by omega)
    (try have z1_1 : w.heap.size + 1 < w1.heap.size := by omega)
    have B1 : Blk w1 w.heap.size [.int .i64 a, .int .i64 b, .int .i64 c, .int .i64 d, .int .i64 k] 114 := by (repeat (first | with_reducible assumption | with_reducible exact Blk.new' _ _ (by first | omega | (simp; done) | (simp; omega)) | with_reducible apply Blk.set5 | with_reducible apply Blk.set4 | with_reducible refine Blk.other ?_ (by first | omega | (simp; done) | (simp; omega)) _ | with_reducible refine Blk.drew ?_ | with_reducible refine Blk.alloc ?_ _ | with_reducible refine Blk.below ?_ (by assumption) (by first | omega | (simp; done) | (simp; omega))))
    have B2 : Blk w1 (w.heap.size + 1) [.int .i64 0, .int .i64 0, .int .i64 0, .int .i64 0, .int .i64 0] 114 := by (repeat (first | with_reducible assumption | with_reducible exact Blk.new' _ _ (by first | omega | (simp; done) | (simp; omega)) | with_reducible apply Blk.set5 | with_reducible apply Blk.set4 | with_reducible refine Blk.other ?_ (by first | omega | (simp; done) | (simp; omega)) _ | with_reducible refine Blk.drew ?_ | with_reducible refine Blk.alloc ?_ _ | with_reducible refine Blk.below ?_ (by assumption) (by first | omega | (simp; done) | (simp; omega))))
    obtain ⟨c1, f1, s1⟩ := B1.facts
    obtain ⟨c2, f2, s2⟩ := B2.facts
    clear hc1 hf1
    go_wp2
    go_region_with (first | (go_at_call 194; refine (sNegZ _ _ _ _ _).mono ?_; rintro e w2 ⟨rfl, hb⟩; obtain ⟨hc, hf, hz⟩ := bcell hb; simp only [World.size_drew, World.cell?_drew, World.frozen?_drew] at hc hf hz; (try have z0 : w.heap.size < w2.heap.size := by omega); (try have z1 : w.heap.size + 1 < w2.heap.size := by omega)))
    all_goals go_wp2
    all_goals exact bodyPost_ret (v := .agg #[.int .i64 (negZ ⟨a, b, c, d⟩).a, .int .i64 (negZ ⟨a, b, c, d⟩).b, .int .i64 (negZ ⟨a, b, c, d⟩).c, .int .i64 (negZ ⟨a, b, c, d⟩).d, .int .i64 k]) (by simp [results, Try.results168, go_sem, *]) rfl ⟨by simp [negD, hx], by (repeat (first | with_reducible exact Below.refl _ _ | with_reducible assumption | with_reducible refine Below.setCell ?_ (by first | omega | (simp; done) | (simp; omega)) _ | with_reducible refine Below.alloc ?_ (by first | omega | (simp; done) | (simp; omega)) _ | with_reducible refine Below.drew ?_ | with_reducible refine Below.trans ?_ (Below.mono (by assumption) (by first | omega | (simp; done) | (simp; omega)))))⟩
  · go_enter Try.func168, Try.ntmps168
    go_wp2_with (first | (go_at_call 164; refine (sIsValidD _ _ _ _ _ _).mono ?_; rintro e w1 ⟨rfl, hb⟩; obtain ⟨hc, hf, hz⟩ := bcell hb; (try simp at hz); (try have z0 : w.heap.size < w1.heap.size := by omega); (try have z1 : w.heap.size + 1 < w1.heap.size := by omega); (try have z2 : w.heap.size + 1 + 1 < w1.heap.size := by omega); (try have z3 : w.heap.size + 1 + 1 + 1 < w1.heap.size := by omega); (try have z4 : w.heap.size + 1 + 1 + 1 + 1 < w1.heap.size := by omega)))
    exact bodyPost_ret (v := .agg #[.int .i64 0, .int .i64 0, .int .i64 0, .int .i64 0, .int .i64 0]) (by simp [results, Try.results168, go_sem, *]) rfl ⟨by simp [negD, hx], by (repeat (first | with_reducible exact Below.refl _ _ | with_reducible assumption | with_reducible refine Below.setCell ?_ (by first | omega | (simp; done) | (simp; omega)) _ | with_reducible refine Below.alloc ?_ (by first | omega | (simp; done) | (simp; omega)) _ | with_reducible refine Below.drew ?_ | with_reducible refine Below.trans ?_ (Below.mono (by assumption) (by first | omega | (simp; done) | (simp; omega)))))⟩

set_option maxHeartbeats 4000000 in
theorem sConjD (a b c d k : Int) (w : World) :
    Calls Try.prog 146 #[.agg #[.int .i64 a, .int .i64 b, .int .i64 c, .int .i64 d, .int .i64 k]] w fun e w' => e = .returned (Dv (conjD ⟨⟨a, b, c, d⟩, k⟩)) ∧ Below w.heap.size w w' := by
  by_cases hx : DO.ok ⟨⟨a, b, c, d⟩, k⟩ = true
  · go_enter Try.func146, Try.ntmps146
    go_wp2_with fail
    refine (sIsValidD _ _ _ _ _ _).mono ?_
    rintro e w1 ⟨rfl, hb1⟩
    obtain ⟨hc1, hf1, hz1⟩ := bcell hb1
    try simp at hz1
    (try have z1_0 : w.heap.size < w1.heap.size := by omega)
    (try have z1_1 : w.heap.size + 1 < w1.heap.size := by omega)
    have B1 : Blk w1 w.heap.size [.int .i64 a, .int .i64 b, .int .i64 c, .int .i64 d, .int .i64 k] 114 := by (repeat (first | with_reducible assumption | with_reducible exact Blk.new' _ _ (by first | omega | (simp; done) | (simp; omega)) | with_reducible apply Blk.set5 | with_reducible apply Blk.set4 | with_reducible refine Blk.other ?_ (by first | omega | (simp; done) | (simp; omega)) _ | with_reducible refine Blk.drew ?_ | with_reducible refine Blk.alloc ?_ _ | with_reducible refine Blk.below ?_ (by assumption) (by first | omega | (simp; done) | (simp; omega))))
    have B2 : Blk w1 (w.heap.size + 1) [.int .i64 0, .int .i64 0, .int .i64 0, .int .i64 0, .int .i64 0] 114 := by (repeat (first | with_reducible assumption | with_reducible exact Blk.new' _ _ (by first | omega | (simp; done) | (simp; omega)) | with_reducible apply Blk.set5 | with_reducible apply Blk.set4 | with_reducible refine Blk.other ?_ (by first | omega | (simp; done) | (simp; omega)) _ | with_reducible refine Blk.drew ?_ | with_reducible refine Blk.alloc ?_ _ | with_reducible refine Blk.below ?_ (by assumption) (by first | omega | (simp; done) | (simp; omega))))
    obtain ⟨c1, f1, s1⟩ := B1.facts
    obtain ⟨c2, f2, s2⟩ := B2.facts
    clear hc1 hf1
    go_wp2
    go_region_with (first | (go_at_call 182; refine (sConjZ _ _ _ _ _).mono ?_; rintro e w2 ⟨rfl, hb⟩; obtain ⟨hc, hf, hz⟩ := bcell hb; simp only [World.size_drew, World.cell?_drew, World.frozen?_drew] at hc hf hz; (try have z0 : w.heap.size < w2.heap.size := by omega); (try have z1 : w.heap.size + 1 < w2.heap.size := by omega)))
    all_goals go_wp2
    all_goals exact bodyPost_ret (v := .agg #[.int .i64 (conjZ ⟨a, b, c, d⟩).a, .int .i64 (conjZ ⟨a, b, c, d⟩).b, .int .i64 (conjZ ⟨a, b, c, d⟩).c, .int .i64 (conjZ ⟨a, b, c, d⟩).d, .int .i64 k]) (by simp [results, Try.results146, go_sem, *]) rfl ⟨by simp [conjD, hx], by (repeat (first | with_reducible exact Below.refl _ _ | with_reducible assumption | with_reducible refine Below.setCell ?_ (by first | omega | (simp; done) | (simp; omega)) _ | with_reducible refine Below.alloc ?_ (by first | omega | (simp; done) | (simp; omega)) _ | with_reducible refine Below.drew ?_ | with_reducible refine Below.trans ?_ (Below.mono (by assumption) (by first | omega | (simp; done) | (simp; omega)))))⟩
  · go_enter Try.func146, Try.ntmps146
    go_wp2_with (first | (go_at_call 164; refine (sIsValidD _ _ _ _ _ _).mono ?_; rintro e w1 ⟨rfl, hb⟩; obtain ⟨hc, hf, hz⟩ := bcell hb; (try simp at hz); (try have z0 : w.heap.size < w1.heap.size := by omega); (try have z1 : w.heap.size + 1 < w1.heap.size := by omega); (try have z2 : w.heap.size + 1 + 1 < w1.heap.size := by omega); (try have z3 : w.heap.size + 1 + 1 + 1 < w1.heap.size := by omega); (try have z4 : w.heap.size + 1 + 1 + 1 + 1 < w1.heap.size := by omega)))
    exact bodyPost_ret (v := .agg #[.int .i64 0, .int .i64 0, .int .i64 0, .int .i64 0, .int .i64 0]) (by simp [results, Try.results146, go_sem, *]) rfl ⟨by simp [conjD, hx], by (repeat (first | with_reducible exact Below.refl _ _ | with_reducible assumption | with_reducible refine Below.setCell ?_ (by first | omega | (simp; done) | (simp; omega)) _ | with_reducible refine Below.alloc ?_ (by first | omega | (simp; done) | (simp; omega)) _ | with_reducible refine Below.drew ?_ | with_reducible refine Below.trans ?_ (Below.mono (by assumption) (by first | omega | (simp; done) | (simp; omega)))))⟩

set_option maxHeartbeats 4000000 in
theorem sMulD (a b c d k a' b' c' d' k' : Int) (w : World) :
    Calls Try.prog 121 #[.agg #[.int .i64 a, .int .i64 b, .int .i64 c, .int .i64 d, .int .i64 k], .agg #[.int .i64 a', .int .i64 b', .int .i64 c', .int .i64 d', .int .i64 k']] w fun e w' => e = .returned (.tuple #[Dv (mulD ⟨⟨a, b, c, d⟩, k⟩ ⟨⟨a', b', c', d'⟩, k'⟩).1, .bool (mulD ⟨⟨a, b, c, d⟩, k⟩ ⟨⟨a', b', c', d'⟩, k'⟩).2]) ∧ Below w.heap.size w w' := by
  by_cases hx : DO.ok ⟨⟨a, b, c, d⟩, k⟩ = true
  · by_cases hy : DO.ok ⟨⟨a', b', c', d'⟩, k'⟩ = true
    · by_cases hm : (mulZ ⟨a, b, c, d⟩ ⟨a', b', c', d'⟩).2 = true
      · have xe := ((DO.ok_iff _).1 hx).2.1
        have ye := ((DO.ok_iff _).1 hy).2.1
        dsimp only at xe ye
        obtain ⟨xe1, xe2⟩ := xe
        obtain ⟨ye1, ye2⟩ := ye
        go_enter Try.func121, Try.ntmps121
        go_wp2_with fail
        refine (sMulZ _ _ _ _ _ _ _ _ _).mono ?_
        rintro e w1 ⟨rfl, hb1⟩
        obtain ⟨hc1, hf1, hz1⟩ := bcell hb1
        try simp at hz1
        have z1_0 : w.heap.size < w1.heap.size := by omega
        have z1_1 : w.heap.size + 1 < w1.heap.size := by omega
        have z1_2 : w.heap.size + 1 + 1 < w1.heap.size := by omega
        go_wp2_with fail
        refine (sIsValidD _ _ _ _ _ _).mono ?_
        rintro e w2 ⟨rfl, hb2⟩
        obtain ⟨hc2, hf2, hz2⟩ := bcell hb2
        try simp at hz2
        have z2_0 : w.heap.size < w2.heap.size := by omega
        have z2_1 : w.heap.size + 1 < w2.heap.size := by omega
        have z2_2 : w.heap.size + 1 + 1 < w2.heap.size := by omega
        have z2_3 : w1.heap.size < w2.heap.size := by omega
        go_wp2_with fail
        refine (sIsValidD _ _ _ _ _ _).mono ?_
        rintro e w3 ⟨rfl, hb3⟩
        obtain ⟨hc3, hf3, hz3⟩ := bcell hb3
        try simp at hz3
        have z3_0 : w.heap.size < w3.heap.size := by omega
        have z3_1 : w.heap.size + 1 < w3.heap.size := by omega
        have z3_2 : w.heap.size + 1 + 1 < w3.heap.size := by omega
        have z3_3 : w1.heap.size < w3.heap.size := by omega
        go_wp2_with fail
        refine (sNew _ _ _ _ _ _).mono ?_
        rintro e w4 ⟨rfl, hb4⟩
        obtain ⟨hc4, hf4, hz4⟩ := bcell hb4
        try simp at hz4
        have z4_0 : w.heap.size < w4.heap.size := by omega
        have z4_1 : w.heap.size + 1 < w4.heap.size := by omega
        have z4_2 : w.heap.size + 1 + 1 < w4.heap.size := by omega
        have z4_3 : w1.heap.size < w4.heap.size := by omega
        go_wp2
        exact bodyPost_ret (v := .tuple #[Dv (newD (mulZ ⟨a, b, c, d⟩ ⟨a', b', c', d'⟩).1 (k + k')).1, .bool (newD (mulZ ⟨a, b, c, d⟩ ⟨a', b', c', d'⟩).1 (k + k')).2]) (by simp [results, Try.results121, go_sem, *]) rfl ⟨by simp [mulD, hx, hy, hm], by (repeat (first | with_reducible exact Below.refl _ _ | with_reducible assumption | with_reducible refine Below.setCell ?_ (by first | omega | (simp; done) | (simp; omega)) _ | with_reducible refine Below.alloc ?_ (by first | omega | (simp; done) | (simp; omega)) _ | with_reducible refine Below.drew ?_ | with_reducible refine Below.trans ?_ (Below.mono (by assumption) (by first | omega | (simp; done) | (simp; omega)))))⟩
      · go_enter Try.func121, Try.ntmps121
        go_wp2_with fail
        refine (sMulZ _ _ _ _ _ _ _ _ _).mono ?_
        rintro e w1 ⟨rfl, hb1⟩
        obtain ⟨hc1, hf1, hz1⟩ := bcell hb1
        try simp at hz1
        have z1_0 : w.heap.size < w1.heap.size := by omega
        have z1_1 : w.heap.size + 1 < w1.heap.size := by omega
        have z1_2 : w.heap.size + 1 + 1 < w1.heap.size := by omega
        go_wp2_with fail
        refine (sIsValidD _ _ _ _ _ _).mono ?_
        rintro e w2 ⟨rfl, hb2⟩
        obtain ⟨hc2, hf2, hz2⟩ := bcell hb2
        try simp at hz2
        have z2_0 : w.heap.size < w2.heap.size := by omega
        have z2_1 : w.heap.size + 1 < w2.heap.size := by omega
        have z2_2 : w.heap.size + 1 + 1 < w2.heap.size := by omega
        have z2_3 : w1.heap.size < w2.heap.size := by omega
        go_wp2_with fail
        refine (sIsValidD _ _ _ _ _ _).mono ?_
        rintro e w3 ⟨rfl, hb3⟩
        obtain ⟨hc3, hf3, hz3⟩ := bcell hb3
        try simp at hz3
        have z3_0 : w.heap.size < w3.heap.size := by omega
        have z3_1 : w.heap.size + 1 < w3.heap.size := by omega
        have z3_2 : w.heap.size + 1 + 1 < w3.heap.size := by omega
        have z3_3 : w1.heap.size < w3.heap.size := by omega
        go_wp2
        exact bodyPost_ret (v := .tuple #[.agg #[.int .i64 0, .int .i64 0, .int .i64 0, .int .i64 0, .int .i64 0], .bool false]) (by simp [results, Try.results121, go_sem, *]) rfl ⟨by simp [mulD, hx, hy, hm], by (repeat (first | with_reducible exact Below.refl _ _ | with_reducible assumption | with_reducible refine Below.setCell ?_ (by first | omega | (simp; done) | (simp; omega)) _ | with_reducible refine Below.alloc ?_ (by first | omega | (simp; done) | (simp; omega)) _ | with_reducible refine Below.drew ?_ | with_reducible refine Below.trans ?_ (Below.mono (by assumption) (by first | omega | (simp; done) | (simp; omega)))))⟩
    · go_enter Try.func121, Try.ntmps121
      go_wp2_with fail
      refine (sMulZ _ _ _ _ _ _ _ _ _).mono ?_
      rintro e w1 ⟨rfl, hb1⟩
      obtain ⟨hc1, hf1, hz1⟩ := bcell hb1
      try simp at hz1
      have z1_0 : w.heap.size < w1.heap.size := by omega
      have z1_1 : w.heap.size + 1 < w1.heap.size := by omega
      have z1_2 : w.heap.size + 1 + 1 < w1.heap.size := by omega
      go_wp2_with fail
      refine (sIsValidD _ _ _ _ _ _).mono ?_
      rintro e w2 ⟨rfl, hb2⟩
      obtain ⟨hc2, hf2, hz2⟩ := bcell hb2
      try simp at hz2
      have z2_0 : w.heap.size < w2.heap.size := by omega
      have z2_1 : w.heap.size + 1 < w2.heap.size := by omega
      have z2_2 : w.heap.size + 1 + 1 < w2.heap.size := by omega
      have z2_3 : w1.heap.size < w2.heap.size := by omega
      go_wp2_with fail
      refine (sIsValidD _ _ _ _ _ _).mono ?_
      rintro e w3 ⟨rfl, hb3⟩
      obtain ⟨hc3, hf3, hz3⟩ := bcell hb3
      try simp at hz3
      have z3_0 : w.heap.size < w3.heap.size := by omega
      have z3_1 : w.heap.size + 1 < w3.heap.size := by omega
      have z3_2 : w.heap.size + 1 + 1 < w3.heap.size := by omega
      have z3_3 : w1.heap.size < w3.heap.size := by omega
      go_wp2
      exact bodyPost_ret (v := .tuple #[.agg #[.int .i64 0, .int .i64 0, .int .i64 0, .int .i64 0, .int .i64 0], .bool false]) (by simp [results, Try.results121, go_sem, *]) rfl ⟨by simp [mulD, hx, hy], by (repeat (first | with_reducible exact Below.refl _ _ | with_reducible assumption | with_reducible refine Below.setCell ?_ (by first | omega | (simp; done) | (simp; omega)) _ | with_reducible refine Below.alloc ?_ (by first | omega | (simp; done) | (simp; omega)) _ | with_reducible refine Below.drew ?_ | with_reducible refine Below.trans ?_ (Below.mono (by assumption) (by first | omega | (simp; done) | (simp; omega)))))⟩
  · go_enter Try.func121, Try.ntmps121
    go_wp2_with fail
    refine (sMulZ _ _ _ _ _ _ _ _ _).mono ?_
    rintro e w1 ⟨rfl, hb1⟩
    obtain ⟨hc1, hf1, hz1⟩ := bcell hb1
    try simp at hz1
    have z1_0 : w.heap.size < w1.heap.size := by omega
    have z1_1 : w.heap.size + 1 < w1.heap.size := by omega
    have z1_2 : w.heap.size + 1 + 1 < w1.heap.size := by omega
    go_wp2_with fail
    refine (sIsValidD _ _ _ _ _ _).mono ?_
    rintro e w2 ⟨rfl, hb2⟩
    obtain ⟨hc2, hf2, hz2⟩ := bcell hb2
    try simp at hz2
    have z2_0 : w.heap.size < w2.heap.size := by omega
    have z2_1 : w.heap.size + 1 < w2.heap.size := by omega
    have z2_2 : w.heap.size + 1 + 1 < w2.heap.size := by omega
    have z2_3 : w1.heap.size < w2.heap.size := by omega
    go_wp2
    exact bodyPost_ret (v := .tuple #[.agg #[.int .i64 0, .int .i64 0, .int .i64 0, .int .i64 0, .int .i64 0], .bool false]) (by simp [results, Try.results121, go_sem, *]) rfl ⟨by simp [mulD, hx], by (repeat (first | with_reducible exact Below.refl _ _ | with_reducible assumption | with_reducible refine Below.setCell ?_ (by first | omega | (simp; done) | (simp; omega)) _ | with_reducible refine Below.alloc ?_ (by first | omega | (simp; done) | (simp; omega)) _ | with_reducible refine Below.drew ?_ | with_reducible refine Below.trans ?_ (Below.mono (by assumption) (by first | omega | (simp; done) | (simp; omega)))))⟩
end Go.Proofs.Yteckhaafdojoeaa
