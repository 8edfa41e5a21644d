/- The sum in D[omega]. -/
import Derived.Test.YteckhaafdojoeaaL
import Derived.Test.YteckhaafdojoeaaM3
import Derived.Test.YteckhaafdojoeaaW2
namespace Go.Proofs.Yteckhaafdojoeaa
open Go.RowKit

theorem sMax (a b : Int) (w : World) : Calls Try.prog 159 #[.int .i64 a, .int .i64 b] w fun e w' => e = .returned (.int .i64 (if b < a then a else b)) ∧ w = w' := by
  by_cases h : b < a
  all_goals
    go_enter Try.func159, Try.ntmps159
    go_wp2
    go_ret
    exact ⟨rfl, rfl⟩

set_option maxHeartbeats 4000000 in
theorem sUp (a b c d t : Int) (ht : t ≤ 1000) (w : World) :
    Calls Try.prog 171 #[.agg #[.int .i64 a, .int .i64 b, .int .i64 c, .int .i64 d], .int .i64 t] w fun e w' => e = .returned (.tuple #[Zv (up t.toNat ⟨a, b, c, d⟩).1, .bool (up t.toNat ⟨a, b, c, d⟩).2]) ∧ Below w.heap.size w w' := by
  go_enter Try.func171, Try.ntmps171
  go_wp2
  go_loopw [6] (fun v wr => ∃ (n : Z4) (j : Int), v = .int .i64 j ∧ 0 ≤ j ∧ (j ≤ t ∨ j = 0) ∧ Hid (up (t - j).toNat n = up t.toNat ⟨a, b, c, d⟩) ∧ Blk wr w.heap.size [.int .i64 n.a, .int .i64 n.b, .int .i64 n.c, .int .i64 n.d] 112 ∧ Blk wr (w.heap.size + 1) [.int .i64 0, .int .i64 0, .int .i64 0, .int .i64 0] 112 ∧ Below w.heap.size w wr) (fun v _ => (t - intOf v).toNat)
  case atStart => exact ⟨⟨a, b, c, d⟩, 0, rfl, by omega, by omega, by rw [Int.sub_zero]; exact rfl, by (repeat (first | with_reducible assumption | with_reducible exact Blk.new' _ _ (by first | omega | (simp; done) | (simp; omega)) | with_reducible apply Blk.set5 | with_reducible apply Blk.set4 | with_reducible refine Blk.other ?_ (by first | omega | (simp; done) | (simp; omega)) _ | with_reducible refine Blk.drew ?_ | with_reducible refine Blk.alloc ?_ _ | with_reducible refine Blk.below ?_ (by assumption) (by first | omega | (simp; done) | (simp; omega)))), by (repeat (first | with_reducible assumption | with_reducible exact Blk.new' _ _ (by first | omega | (simp; done) | (simp; omega)) | with_reducible apply Blk.set5 | with_reducible apply Blk.set4 | with_reducible refine Blk.other ?_ (by first | omega | (simp; done) | (simp; omega)) _ | with_reducible refine Blk.drew ?_ | with_reducible refine Blk.alloc ?_ _ | with_reducible refine Blk.below ?_ (by assumption) (by first | omega | (simp; done) | (simp; omega)))), by (repeat (first | with_reducible exact Below.refl _ _ | with_reducible assumption | with_reducible refine Below.setCell ?_ (by first | omega | (simp; done) | (simp; omega)) _ | with_reducible refine Below.alloc ?_ (by first | omega | (simp; done) | (simp; omega)) _ | with_reducible refine Below.drew ?_ | with_reducible refine Below.trans ?_ (Below.mono (by assumption) (by first | omega | (simp; done) | (simp; omega)))))⟩
  case round =>
    obtain ⟨⟨p, q, r, s⟩, j, rfl, h0, h1, hinv, hB, hB1, hb0⟩ := hrel
    dsimp only at hB
    obtain ⟨cB, fB, sB⟩ := hB.facts
    obtain ⟨cB1, fB1, sB1⟩ := hB1.facts
    by_cases hj : j < t
    · by_cases hm : (mulZ ⟨p, q, r, s⟩ ⟨0, 1, 0, -1⟩).2 = true
      · go_wp2_with fail
        refine (sMulZ _ _ _ _ _ _ _ _ _).mono ?_
        rintro e x1 ⟨rfl, hbx1⟩
        obtain ⟨hcx1, hfx1, hzx1⟩ := bcell hbx1
        try simp at hzx1
        have zx1_0 : w.heap.size < x1.heap.size := by omega
        have zx1_1 : w.heap.size + 1 < x1.heap.size := by omega
        go_wp2
        go_roundw
        case rel => exact ⟨(mulZ ⟨p, q, r, s⟩ ⟨0, 1, 0, -1⟩).1, j + 1, rfl, by omega, by omega, upc_more hj hinv.out hm, by (repeat (first | with_reducible assumption | with_reducible exact Blk.new' _ _ (by first | omega | (simp; done) | (simp; omega)) | with_reducible apply Blk.set5 | with_reducible apply Blk.set4 | with_reducible refine Blk.other ?_ (by first | omega | (simp; done) | (simp; omega)) _ | with_reducible refine Blk.drew ?_ | with_reducible refine Blk.alloc ?_ _ | with_reducible refine Blk.below ?_ (by assumption) (by first | omega | (simp; done) | (simp; omega)))), by (repeat (first | with_reducible assumption | with_reducible exact Blk.new' _ _ (by first | omega | (simp; done) | (simp; omega)) | with_reducible apply Blk.set5 | with_reducible apply Blk.set4 | with_reducible refine Blk.other ?_ (by first | omega | (simp; done) | (simp; omega)) _ | with_reducible refine Blk.drew ?_ | with_reducible refine Blk.alloc ?_ _ | with_reducible refine Blk.below ?_ (by assumption) (by first | omega | (simp; done) | (simp; omega)))), by (repeat (first | with_reducible exact Below.refl _ _ | with_reducible assumption | with_reducible refine Below.setCell ?_ (by first | omega | (simp; done) | (simp; omega)) _ | with_reducible refine Below.alloc ?_ (by first | omega | (simp; done) | (simp; omega)) _ | with_reducible refine Below.drew ?_ | with_reducible refine Below.trans ?_ (Below.mono (by assumption) (by first | omega | (simp; done) | (simp; omega)))))⟩
        case measure => simp [intOf]; omega
      · have hfin := Lib.hid (up_fail hj hinv.out hm)
        go_wp2_with fail
        refine (sMulZ _ _ _ _ _ _ _ _ _).mono ?_
        rintro e x1 ⟨rfl, hbx1⟩
        obtain ⟨hcx1, hfx1, hzx1⟩ := bcell hbx1
        try simp at hzx1
        have zx1_0 : w.heap.size < x1.heap.size := by omega
        have zx1_1 : w.heap.size + 1 < x1.heap.size := by omega
        go_wp2
        exact bodyPost_ret (v := .tuple #[.agg #[.int .i64 0, .int .i64 0, .int .i64 0, .int .i64 0], .bool false]) (by simp [results, Try.results171, go_sem, *]) rfl ⟨by rw [hfin.out], by (repeat (first | with_reducible exact Below.refl _ _ | with_reducible assumption | with_reducible refine Below.setCell ?_ (by first | omega | (simp; done) | (simp; omega)) _ | with_reducible refine Below.alloc ?_ (by first | omega | (simp; done) | (simp; omega)) _ | with_reducible refine Below.drew ?_ | with_reducible refine Below.trans ?_ (Below.mono (by assumption) (by first | omega | (simp; done) | (simp; omega)))))⟩
    · have hfin := Lib.hid (up_stop hj hinv.out)
      go_wp2
      exact bodyPost_ret (v := .tuple #[.agg #[.int .i64 p, .int .i64 q, .int .i64 r, .int .i64 s], .bool true]) (by simp [results, Try.results171, go_sem, *]) rfl ⟨by rw [hfin.out], by (repeat (first | with_reducible exact Below.refl _ _ | with_reducible assumption | with_reducible refine Below.setCell ?_ (by first | omega | (simp; done) | (simp; omega)) _ | with_reducible refine Below.alloc ?_ (by first | omega | (simp; done) | (simp; omega)) _ | with_reducible refine Below.drew ?_ | with_reducible refine Below.trans ?_ (Below.mono (by assumption) (by first | omega | (simp; done) | (simp; omega)))))⟩

set_option maxHeartbeats 8000000 in
theorem sAddD (a b c d k a' b' c' d' k' : Int) (w : World) :
    Calls Try.prog 122 #[.agg #[.int .i64 a, .int .i64 b, .int .i64 c, .int .i64 d, .int .i64 k], .agg #[.int .i64 a', .int .i64 b', .int .i64 c', .int .i64 d', .int .i64 k']] w fun e w' => e = .returned (.tuple #[Dv (addD ⟨⟨a, b, c, d⟩, k⟩ ⟨⟨a', b', c', d'⟩, k'⟩).1, .bool (addD ⟨⟨a, b, c, d⟩, k⟩ ⟨⟨a', b', c', d'⟩, k'⟩).2]) ∧ Below w.heap.size w w' := by
  by_cases hx : DO.ok ⟨⟨a, b, c, d⟩, k⟩ = true
  · by_cases hy : DO.ok ⟨⟨a', b', c', d'⟩, k'⟩ = true
    · have xe := ((DO.ok_iff _).1 hx).2.1
      have ye := ((DO.ok_iff _).1 hy).2.1
      dsimp only at xe ye
      obtain ⟨xe1, xe2⟩ := xe
      obtain ⟨ye1, ye2⟩ := ye
      by_cases hlt : k' < k
      · have hadd := addS_left hx hy hlt
        dsimp only at hadd
        generalize hA : up (k - k).toNat ⟨a, b, c, d⟩ = A
        generalize hB : up (k - k').toNat ⟨a', b', c', d'⟩ = B
        have GA := Lib.hid hA
        have GB := Lib.hid hB
        have HA := Lib.hid (show up (Int.toNat 0) ⟨a, b, c, d⟩ = A by rw [← hA, Int.sub_self])
        have HB := Lib.hid hB
        clear hA hB
        have hmax : (if k' < k then k else k') = k := if_pos hlt
        by_cases a1 : A.2 = true
        · by_cases b1 : B.2 = true
          · by_cases n1 : (addZ A.1 B.1).2 = true
            · have hfin := Lib.hid (hadd.trans (addS_yes (x := ⟨⟨a, b, c, d⟩, k⟩) (y := ⟨⟨a', b', c', d'⟩, k'⟩) GA.out GB.out a1 b1 n1))
              clear hadd
              go_enter Try.func122, Try.ntmps122
              go_wp2_with fail
              refine (sIsValidD _ _ _ _ _ _).mono ?_
              rintro e w1 ⟨rfl, hb1⟩
              obtain ⟨hc1, hf1, hz1⟩ := bcell hb1
              try simp at hz1
              have z1_0 : w.heap.size < w1.heap.size := by omega
              have z1_1 : w.heap.size + 1 < w1.heap.size := by omega
              have z1_2 : w.heap.size + 1 + 1 < w1.heap.size := by omega
              go_wp2_with fail
              refine (sIsValidD _ _ _ _ _ _).mono ?_
              rintro e w2 ⟨rfl, hb2⟩
              obtain ⟨hc2, hf2, hz2⟩ := bcell hb2
              try simp at hz2
              have z2_0 : w.heap.size < w2.heap.size := by omega
              have z2_1 : w.heap.size + 1 < w2.heap.size := by omega
              have z2_2 : w.heap.size + 1 + 1 < w2.heap.size := by omega
              go_wp2_with fail
              refine (sMax _ _ _).mono ?_
              rintro e _ ⟨rfl, rfl⟩
              rw [hmax]
              go_wp2_with fail
              refine (sUp _ _ _ _ _ (by omega) _).mono ?_
              rw [HA.out]
              rintro e w4 ⟨rfl, hb4⟩
              obtain ⟨hc4, hf4, hz4⟩ := bcell hb4
              try simp at hz4
              have z4_0 : w.heap.size < w4.heap.size := by omega
              have z4_1 : w.heap.size + 1 < w4.heap.size := by omega
              have z4_2 : w.heap.size + 1 + 1 < w4.heap.size := by omega
              go_wp2_with fail
              refine (sUp _ _ _ _ _ (by omega) _).mono ?_
              rw [HB.out]
              rintro e w5 ⟨rfl, hb5⟩
              obtain ⟨hc5, hf5, hz5⟩ := bcell hb5
              try simp at hz5
              have z5_0 : w.heap.size < w5.heap.size := by omega
              have z5_1 : w.heap.size + 1 < w5.heap.size := by omega
              have z5_2 : w.heap.size + 1 + 1 < w5.heap.size := by omega
              have z5_3 : w4.heap.size < w5.heap.size := by omega
              go_wp2_with fail
              refine (sAddZ _ _ _ _ _ _ _ _ _).mono ?_
              rintro e w6 ⟨rfl, hb6⟩
              obtain ⟨hc6, hf6, hz6⟩ := bcell hb6
              try simp at hz6
              have z6_0 : w.heap.size < w6.heap.size := by omega
              have z6_1 : w.heap.size + 1 < w6.heap.size := by omega
              have z6_2 : w.heap.size + 1 + 1 < w6.heap.size := by omega
              have z6_3 : w4.heap.size < w6.heap.size := by omega
              have z6_4 : w5.heap.size < w6.heap.size := by omega
              go_wp2_with fail
              refine (sNew _ _ _ _ _ _).mono ?_
              rintro e w7 ⟨rfl, hb7⟩
              obtain ⟨hc7, hf7, hz7⟩ := bcell hb7
              try simp at hz7
              have z7_0 : w.heap.size < w7.heap.size := by omega
              have z7_1 : w.heap.size + 1 < w7.heap.size := by omega
              have z7_2 : w.heap.size + 1 + 1 < w7.heap.size := by omega
              have z7_3 : w4.heap.size < w7.heap.size := by omega
              have z7_4 : w5.heap.size < w7.heap.size := by omega
              have z7_5 : w6.heap.size < w7.heap.size := by omega
              go_wp2
              exact bodyPost_ret (v := .tuple #[Dv (newD (addZ A.1 B.1).1 k).1, .bool (newD (addZ A.1 B.1).1 k).2]) (by simp [results, Try.results122, go_sem, *]) rfl ⟨by rw [hfin.out], by (repeat (first | with_reducible exact Below.refl _ _ | with_reducible assumption | with_reducible refine Below.setCell ?_ (by first | omega | (simp; done) | (simp; omega)) _ | with_reducible refine Below.alloc ?_ (by first | omega | (simp; done) | (simp; omega)) _ | with_reducible refine Below.drew ?_ | with_reducible refine Below.trans ?_ (Below.mono (by assumption) (by first | omega | (simp; done) | (simp; omega)))))⟩
            · have hfin := Lib.hid (hadd.trans (addS_no (x := ⟨⟨a, b, c, d⟩, k⟩) (y := ⟨⟨a', b', c', d'⟩, k'⟩) GA.out GB.out (by simp [n1])))
              clear hadd
              go_enter Try.func122, Try.ntmps122
              go_wp2_with fail
              refine (sIsValidD _ _ _ _ _ _).mono ?_
              rintro e w1 ⟨rfl, hb1⟩
              obtain ⟨hc1, hf1, hz1⟩ := bcell hb1
              try simp at hz1
              have z1_0 : w.heap.size < w1.heap.size := by omega
              have z1_1 : w.heap.size + 1 < w1.heap.size := by omega
              have z1_2 : w.heap.size + 1 + 1 < w1.heap.size := by omega
              go_wp2_with fail
              refine (sIsValidD _ _ _ _ _ _).mono ?_
              rintro e w2 ⟨rfl, hb2⟩
              obtain ⟨hc2, hf2, hz2⟩ := bcell hb2
              try simp at hz2
              have z2_0 : w.heap.size < w2.heap.size := by omega
              have z2_1 : w.heap.size + 1 < w2.heap.size := by omega
              have z2_2 : w.heap.size + 1 + 1 < w2.heap.size := by omega
              go_wp2_with fail
              refine (sMax _ _ _).mono ?_
              rintro e _ ⟨rfl, rfl⟩
              rw [hmax]
              go_wp2_with fail
              refine (sUp _ _ _ _ _ (by omega) _).mono ?_
              rw [HA.out]
              rintro e w4 ⟨rfl, hb4⟩
              obtain ⟨hc4, hf4, hz4⟩ := bcell hb4
              try simp at hz4
              have z4_0 : w.heap.size < w4.heap.size := by omega
              have z4_1 : w.heap.size + 1 < w4.heap.size := by omega
              have z4_2 : w.heap.size + 1 + 1 < w4.heap.size := by omega
              go_wp2_with fail
              refine (sUp _ _ _ _ _ (by omega) _).mono ?_
              rw [HB.out]
              rintro e w5 ⟨rfl, hb5⟩
              obtain ⟨hc5, hf5, hz5⟩ := bcell hb5
              try simp at hz5
              have z5_0 : w.heap.size < w5.heap.size := by omega
              have z5_1 : w.heap.size + 1 < w5.heap.size := by omega
              have z5_2 : w.heap.size + 1 + 1 < w5.heap.size := by omega
              have z5_3 : w4.heap.size < w5.heap.size := by omega
              go_wp2_with fail
              refine (sAddZ _ _ _ _ _ _ _ _ _).mono ?_
              rintro e w6 ⟨rfl, hb6⟩
              obtain ⟨hc6, hf6, hz6⟩ := bcell hb6
              try simp at hz6
              have z6_0 : w.heap.size < w6.heap.size := by omega
              have z6_1 : w.heap.size + 1 < w6.heap.size := by omega
              have z6_2 : w.heap.size + 1 + 1 < w6.heap.size := by omega
              have z6_3 : w4.heap.size < w6.heap.size := by omega
              have z6_4 : w5.heap.size < w6.heap.size := by omega
              go_wp2
              exact bodyPost_ret (v := .tuple #[.agg #[.int .i64 0, .int .i64 0, .int .i64 0, .int .i64 0, .int .i64 0], .bool false]) (by simp [results, Try.results122, go_sem, *]) rfl ⟨by rw [hfin.out], by (repeat (first | with_reducible exact Below.refl _ _ | with_reducible assumption | with_reducible refine Below.setCell ?_ (by first | omega | (simp; done) | (simp; omega)) _ | with_reducible refine Below.alloc ?_ (by first | omega | (simp; done) | (simp; omega)) _ | with_reducible refine Below.drew ?_ | with_reducible refine Below.trans ?_ (Below.mono (by assumption) (by first | omega | (simp; done) | (simp; omega)))))⟩
          · have hfin := Lib.hid (hadd.trans (addS_no (x := ⟨⟨a, b, c, d⟩, k⟩) (y := ⟨⟨a', b', c', d'⟩, k'⟩) GA.out GB.out (by simp [b1])))
            clear hadd
            go_enter Try.func122, Try.ntmps122
            go_wp2_with fail
            refine (sIsValidD _ _ _ _ _ _).mono ?_
            rintro e w1 ⟨rfl, hb1⟩
            obtain ⟨hc1, hf1, hz1⟩ := bcell hb1
            try simp at hz1
            have z1_0 : w.heap.size < w1.heap.size := by omega
            have z1_1 : w.heap.size + 1 < w1.heap.size := by omega
            have z1_2 : w.heap.size + 1 + 1 < w1.heap.size := by omega
            go_wp2_with fail
            refine (sIsValidD _ _ _ _ _ _).mono ?_
            rintro e w2 ⟨rfl, hb2⟩
            obtain ⟨hc2, hf2, hz2⟩ := bcell hb2
            try simp at hz2
            have z2_0 : w.heap.size < w2.heap.size := by omega
            have z2_1 : w.heap.size + 1 < w2.heap.size := by omega
            have z2_2 : w.heap.size + 1 + 1 < w2.heap.size := by omega
            go_wp2_with fail
            refine (sMax _ _ _).mono ?_
            rintro e _ ⟨rfl, rfl⟩
            rw [hmax]
            go_wp2_with fail
            refine (sUp _ _ _ _ _ (by omega) _).mono ?_
            rw [HA.out]
            rintro e w4 ⟨rfl, hb4⟩
            obtain ⟨hc4, hf4, hz4⟩ := bcell hb4
            try simp at hz4
            have z4_0 : w.heap.size < w4.heap.size := by omega
            have z4_1 : w.heap.size + 1 < w4.heap.size := by omega
            have z4_2 : w.heap.size + 1 + 1 < w4.heap.size := by omega
            go_wp2_with fail
            refine (sUp _ _ _ _ _ (by omega) _).mono ?_
            rw [HB.out]
            rintro e w5 ⟨rfl, hb5⟩
            obtain ⟨hc5, hf5, hz5⟩ := bcell hb5
            try simp at hz5
            have z5_0 : w.heap.size < w5.heap.size := by omega
            have z5_1 : w.heap.size + 1 < w5.heap.size := by omega
            have z5_2 : w.heap.size + 1 + 1 < w5.heap.size := by omega
            have z5_3 : w4.heap.size < w5.heap.size := by omega
            go_wp2_with fail
            refine (sAddZ _ _ _ _ _ _ _ _ _).mono ?_
            rintro e w6 ⟨rfl, hb6⟩
            obtain ⟨hc6, hf6, hz6⟩ := bcell hb6
            try simp at hz6
            have z6_0 : w.heap.size < w6.heap.size := by omega
            have z6_1 : w.heap.size + 1 < w6.heap.size := by omega
            have z6_2 : w.heap.size + 1 + 1 < w6.heap.size := by omega
            have z6_3 : w4.heap.size < w6.heap.size := by omega
            have z6_4 : w5.heap.size < w6.heap.size := by omega
            go_wp2
            exact bodyPost_ret (v := .tuple #[.agg #[.int .i64 0, .int .i64 0, .int .i64 0, .int .i64 0, .int .i64 0], .bool false]) (by simp [results, Try.results122, go_sem, *]) rfl ⟨by rw [hfin.out], by (repeat (first | with_reducible exact Below.refl _ _ | with_reducible assumption | with_reducible refine Below.setCell ?_ (by first | omega | (simp; done) | (simp; omega)) _ | with_reducible refine Below.alloc ?_ (by first | omega | (simp; done) | (simp; omega)) _ | with_reducible refine Below.drew ?_ | with_reducible refine Below.trans ?_ (Below.mono (by assumption) (by first | omega | (simp; done) | (simp; omega)))))⟩
        · have hfin := Lib.hid (hadd.trans (addS_no (x := ⟨⟨a, b, c, d⟩, k⟩) (y := ⟨⟨a', b', c', d'⟩, k'⟩) GA.out GB.out (by simp [a1])))
          clear hadd
          go_enter Try.func122, Try.ntmps122
          go_wp2_with fail
          refine (sIsValidD _ _ _ _ _ _).mono ?_
          rintro e w1 ⟨rfl, hb1⟩
          obtain ⟨hc1, hf1, hz1⟩ := bcell hb1
          try simp at hz1
          have z1_0 : w.heap.size < w1.heap.size := by omega
          have z1_1 : w.heap.size + 1 < w1.heap.size := by omega
          have z1_2 : w.heap.size + 1 + 1 < w1.heap.size := by omega
          go_wp2_with fail
          refine (sIsValidD _ _ _ _ _ _).mono ?_
          rintro e w2 ⟨rfl, hb2⟩
          obtain ⟨hc2, hf2, hz2⟩ := bcell hb2
          try simp at hz2
          have z2_0 : w.heap.size < w2.heap.size := by omega
          have z2_1 : w.heap.size + 1 < w2.heap.size := by omega
          have z2_2 : w.heap.size + 1 + 1 < w2.heap.size := by omega
          go_wp2_with fail
          refine (sMax _ _ _).mono ?_
          rintro e _ ⟨rfl, rfl⟩
          rw [hmax]
          go_wp2_with fail
          refine (sUp _ _ _ _ _ (by omega) _).mono ?_
          rw [HA.out]
          rintro e w4 ⟨rfl, hb4⟩
          obtain ⟨hc4, hf4, hz4⟩ := bcell hb4
          try simp at hz4
          have z4_0 : w.heap.size < w4.heap.size := by omega
          have z4_1 : w.heap.size + 1 < w4.heap.size := by omega
          have z4_2 : w.heap.size + 1 + 1 < w4.heap.size := by omega
          go_wp2_with fail
          refine (sUp _ _ _ _ _ (by omega) _).mono ?_
          rw [HB.out]
          rintro e w5 ⟨rfl, hb5⟩
          obtain ⟨hc5, hf5, hz5⟩ := bcell hb5
          try simp at hz5
          have z5_0 : w.heap.size < w5.heap.size := by omega
          have z5_1 : w.heap.size + 1 < w5.heap.size := by omega
          have z5_2 : w.heap.size + 1 + 1 < w5.heap.size := by omega
          have z5_3 : w4.heap.size < w5.heap.size := by omega
          go_wp2_with fail
          refine (sAddZ _ _ _ _ _ _ _ _ _).mono ?_
          rintro e w6 ⟨rfl, hb6⟩
          obtain ⟨hc6, hf6, hz6⟩ := bcell hb6
          try simp at hz6
          have z6_0 : w.heap.size < w6.heap.size := by omega
          have z6_1 : w.heap.size + 1 < w6.heap.size := by omega
          have z6_2 : w.heap.size + 1 + 1 < w6.heap.size := by omega
          have z6_3 : w4.heap.size < w6.heap.size := by omega
          have z6_4 : w5.heap.size < w6.heap.size := by omega
          go_wp2
          exact bodyPost_ret (v := .tuple #[.agg #[.int .i64 0, .int .i64 0, .int .i64 0, .int .i64 0, .int .i64 0], .bool false]) (by simp [results, Try.results122, go_sem, *]) rfl ⟨by rw [hfin.out], by (repeat (first | with_reducible exact Below.refl _ _ | with_reducible assumption | with_reducible refine Below.setCell ?_ (by first | omega | (simp; done) | (simp; omega)) _ | with_reducible refine Below.alloc ?_ (by first | omega | (simp; done) | (simp; omega)) _ | with_reducible refine Below.drew ?_ | with_reducible refine Below.trans ?_ (Below.mono (by assumption) (by first | omega | (simp; done) | (simp; omega)))))⟩
      · have hadd := addS_right hx hy hlt
        dsimp only at hadd
        generalize hA : up (k' - k).toNat ⟨a, b, c, d⟩ = A
        generalize hB : up (k' - k').toNat ⟨a', b', c', d'⟩ = B
        have GA := Lib.hid hA
        have GB := Lib.hid hB
        have HA := Lib.hid hA
        have HB := Lib.hid (show up (Int.toNat 0) ⟨a', b', c', d'⟩ = B by rw [← hB, Int.sub_self])
        clear hA hB
        have hmax : (if k' < k then k else k') = k' := if_neg hlt
        by_cases a1 : A.2 = true
        · by_cases b1 : B.2 = true
          · by_cases n1 : (addZ A.1 B.1).2 = true
            · have hfin := Lib.hid (hadd.trans (addS_yes (x := ⟨⟨a, b, c, d⟩, k⟩) (y := ⟨⟨a', b', c', d'⟩, k'⟩) GA.out GB.out a1 b1 n1))
              clear hadd
              go_enter Try.func122, Try.ntmps122
              go_wp2_with fail
              refine (sIsValidD _ _ _ _ _ _).mono ?_
              rintro e w1 ⟨rfl, hb1⟩
              obtain ⟨hc1, hf1, hz1⟩ := bcell hb1
              try simp at hz1
              have z1_0 : w.heap.size < w1.heap.size := by omega
              have z1_1 : w.heap.size + 1 < w1.heap.size := by omega
              have z1_2 : w.heap.size + 1 + 1 < w1.heap.size := by omega
              go_wp2_with fail
              refine (sIsValidD _ _ _ _ _ _).mono ?_
              rintro e w2 ⟨rfl, hb2⟩
              obtain ⟨hc2, hf2, hz2⟩ := bcell hb2
              try simp at hz2
              have z2_0 : w.heap.size < w2.heap.size := by omega
              have z2_1 : w.heap.size + 1 < w2.heap.size := by omega
              have z2_2 : w.heap.size + 1 + 1 < w2.heap.size := by omega
              go_wp2_with fail
              refine (sMax _ _ _).mono ?_
              rintro e _ ⟨rfl, rfl⟩
              rw [hmax]
              go_wp2_with fail
              refine (sUp _ _ _ _ _ (by omega) _).mono ?_
              rw [HA.out]
              rintro e w4 ⟨rfl, hb4⟩
              obtain ⟨hc4, hf4, hz4⟩ := bcell hb4
              try simp at hz4
              have z4_0 : w.heap.size < w4.heap.size := by omega
              have z4_1 : w.heap.size + 1 < w4.heap.size := by omega
              have z4_2 : w.heap.size + 1 + 1 < w4.heap.size := by omega
              go_wp2_with fail
              refine (sUp _ _ _ _ _ (by omega) _).mono ?_
              rw [HB.out]
              rintro e w5 ⟨rfl, hb5⟩
              obtain ⟨hc5, hf5, hz5⟩ := bcell hb5
              try simp at hz5
              have z5_0 : w.heap.size < w5.heap.size := by omega
              have z5_1 : w.heap.size + 1 < w5.heap.size := by omega
              have z5_2 : w.heap.size + 1 + 1 < w5.heap.size := by omega
              have z5_3 : w4.heap.size < w5.heap.size := by omega
              go_wp2_with fail
              refine (sAddZ _ _ _ _ _ _ _ _ _).mono ?_
              rintro e w6 ⟨rfl, hb6⟩
              obtain ⟨hc6, hf6, hz6⟩ := bcell hb6
              try simp at hz6
              have z6_0 : w.heap.size < w6.heap.size := by omega
              have z6_1 : w.heap.size + 1 < w6.heap.size := by omega
              have z6_2 : w.heap.size + 1 + 1 < w6.heap.size := by omega
              have z6_3 : w4.heap.size < w6.heap.size := by omega
              have z6_4 : w5.heap.size < w6.heap.size := by omega
              go_wp2_with fail
              refine (sNew _ _ _ _ _ _).mono ?_
              rintro e w7 ⟨rfl, hb7⟩
              obtain ⟨hc7, hf7, hz7⟩ := bcell hb7
              try simp at hz7
              have z7_0 : w.heap.size < w7.heap.size := by omega
              have z7_1 : w.heap.size + 1 < w7.heap.size := by omega
              have z7_2 : w.heap.size + 1 + 1 < w7.heap.size := by omega
              have z7_3 : w4.heap.size < w7.heap.size := by omega
              have z7_4 : w5.heap.size < w7.heap.size := by omega
              have z7_5 : w6.heap.size < w7.heap.size := by omega
              go_wp2
              exact bodyPost_ret (v := .tuple #[Dv (newD (addZ A.1 B.1).1 k').1, .bool (newD (addZ A.1 B.1).1 k').2]) (by simp [results, Try.results122, go_sem, *]) rfl ⟨by rw [hfin.out], by (repeat (first | with_reducible exact Below.refl _ _ | with_reducible assumption | with_reducible refine Below.setCell ?_ (by first | omega | (simp; done) | (simp; omega)) _ | with_reducible refine Below.alloc ?_ (by first | omega | (simp; done) | (simp; omega)) _ | with_reducible refine Below.drew ?_ | with_reducible refine Below.trans ?_ (Below.mono (by assumption) (by first | omega | (simp; done) | (simp; omega)))))⟩
            · have hfin := Lib.hid (hadd.trans (addS_no (x := ⟨⟨a, b, c, d⟩, k⟩) (y := ⟨⟨a', b', c', d'⟩, k'⟩) GA.out GB.out (by simp [n1])))
              clear hadd
              go_enter Try.func122, Try.ntmps122
              go_wp2_with fail
              refine (sIsValidD _ _ _ _ _ _).mono ?_
              rintro e w1 ⟨rfl, hb1⟩
              obtain ⟨hc1, hf1, hz1⟩ := bcell hb1
              try simp at hz1
              have z1_0 : w.heap.size < w1.heap.size := by omega
              have z1_1 : w.heap.size + 1 < w1.heap.size := by omega
              have z1_2 : w.heap.size + 1 + 1 < w1.heap.size := by omega
              go_wp2_with fail
              refine (sIsValidD _ _ _ _ _ _).mono ?_
              rintro e w2 ⟨rfl, hb2⟩
              obtain ⟨hc2, hf2, hz2⟩ := bcell hb2
              try simp at hz2
              have z2_0 : w.heap.size < w2.heap.size := by omega
              have z2_1 : w.heap.size + 1 < w2.heap.size := by omega
              have z2_2 : w.heap.size + 1 + 1 < w2.heap.size := by omega
              go_wp2_with fail
              refine (sMax _ _ _).mono ?_
              rintro e _ ⟨rfl, rfl⟩
              rw [hmax]
              go_wp2_with fail
              refine (sUp _ _ _ _ _ (by omega) _).mono ?_
              rw [HA.out]
              rintro e w4 ⟨rfl, hb4⟩
              obtain ⟨hc4, hf4, hz4⟩ := bcell hb4
              try simp at hz4
              have z4_0 : w.heap.size < w4.heap.size := by omega
              have z4_1 : w.heap.size + 1 < w4.heap.size := by omega
              have z4_2 : w.heap.size + 1 + 1 < w4.heap.size := by omega
              go_wp2_with fail
              refine (sUp _ _ _ _ _ (by omega) _).mono ?_
              rw [HB.out]
              rintro e w5 ⟨rfl, hb5⟩
              obtain ⟨hc5, hf5, hz5⟩ := bcell hb5
              try simp at hz5
              have z5_0 : w.heap.size < w5.heap.size := by omega
              have z5_1 : w.heap.size + 1 < w5.heap.size := by omega
              have z5_2 : w.heap.size + 1 + 1 < w5.heap.size := by omega
              have z5_3 : w4.heap.size < w5.heap.size := by omega
              go_wp2_with fail
              refine (sAddZ _ _ _ _ _ _ _ _ _).mono ?_
              rintro e w6 ⟨rfl, hb6⟩
              obtain ⟨hc6, hf6, hz6⟩ := bcell hb6
              try simp at hz6
              have z6_0 : w.heap.size < w6.heap.size := by omega
              have z6_1 : w.heap.size + 1 < w6.heap.size := by omega
              have z6_2 : w.heap.size + 1 + 1 < w6.heap.size := by omega
              have z6_3 : w4.heap.size < w6.heap.size := by omega
              have z6_4 : w5.heap.size < w6.heap.size := by omega
              go_wp2
              exact bodyPost_ret (v := .tuple #[.agg #[.int .i64 0, .int .i64 0, .int .i64 0, .int .i64 0, .int .i64 0], .bool false]) (by simp [results, Try.results122, go_sem, *]) rfl ⟨by rw [hfin.out], by (repeat (first | with_reducible exact Below.refl _ _ | with_reducible assumption | with_reducible refine Below.setCell ?_ (by first | omega | (simp; done) | (simp; omega)) _ | with_reducible refine Below.alloc ?_ (by first | omega | (simp; done) | (simp; omega)) _ | with_reducible refine Below.drew ?_ | with_reducible refine Below.trans ?_ (Below.mono (by assumption) (by first | omega | (simp; done) | (simp; omega)))))⟩
          · have hfin := Lib.hid (hadd.trans (addS_no (x := ⟨⟨a, b, c, d⟩, k⟩) (y := ⟨⟨a', b', c', d'⟩, k'⟩) GA.out GB.out (by simp [b1])))
            clear hadd
            go_enter Try.func122, Try.ntmps122
            go_wp2_with fail
            refine (sIsValidD _ _ _ _ _ _).mono ?_
            rintro e w1 ⟨rfl, hb1⟩
            obtain ⟨hc1, hf1, hz1⟩ := bcell hb1
            try simp at hz1
            have z1_0 : w.heap.size < w1.heap.size := by omega
            have z1_1 : w.heap.size + 1 < w1.heap.size := by omega
            have z1_2 : w.heap.size + 1 + 1 < w1.heap.size := by omega
            go_wp2_with fail
            refine (sIsValidD _ _ _ _ _ _).mono ?_
            rintro e w2 ⟨rfl, hb2⟩
            obtain ⟨hc2, hf2, hz2⟩ := bcell hb2
            try simp at hz2
            have z2_0 : w.heap.size < w2.heap.size := by omega
            have z2_1 : w.heap.size + 1 < w2.heap.size := by omega
            have z2_2 : w.heap.size + 1 + 1 < w2.heap.size := by omega
            go_wp2_with fail
            refine (sMax _ _ _).mono ?_
            rintro e _ ⟨rfl, rfl⟩
            rw [hmax]
            go_wp2_with fail
            refine (sUp _ _ _ _ _ (by omega) _).mono ?_
            rw [HA.out]
            rintro e w4 ⟨rfl, hb4⟩
            obtain ⟨hc4, hf4, hz4⟩ := bcell hb4
            try simp at hz4
            have z4_0 : w.heap.size < w4.heap.size := by omega
            have z4_1 : w.heap.size + 1 < w4.heap.size := by omega
            have z4_2 : w.heap.size + 1 + 1 < w4.heap.size := by omega
            go_wp2_with fail
            refine (sUp _ _ _ _ _ (by omega) _).mono ?_
            rw [HB.out]
            rintro e w5 ⟨rfl, hb5⟩
            obtain ⟨hc5, hf5, hz5⟩ := bcell hb5
            try simp at hz5
            have z5_0 : w.heap.size < w5.heap.size := by omega
            have z5_1 : w.heap.size + 1 < w5.heap.size := by omega
            have z5_2 : w.heap.size + 1 + 1 < w5.heap.size := by omega
            have z5_3 : w4.heap.size < w5.heap.size := by omega
            go_wp2_with fail
            refine (sAddZ _ _ _ _ _ _ _ _ _).mono ?_
            rintro e w6 ⟨rfl, hb6⟩
            obtain ⟨hc6, hf6, hz6⟩ := bcell hb6
            try simp at hz6
            have z6_0 : w.heap.size < w6.heap.size := by omega
            have z6_1 : w.heap.size + 1 < w6.heap.size := by omega
            have z6_2 : w.heap.size + 1 + 1 < w6.heap.size := by omega
            have z6_3 : w4.heap.size < w6.heap.size := by omega
            have z6_4 : w5.heap.size < w6.heap.size := by omega
            go_wp2
            exact bodyPost_ret (v := .tuple #[.agg #[.int .i64 0, .int .i64 0, .int .i64 0, .int .i64 0, .int .i64 0], .bool false]) (by simp [results, Try.results122, go_sem, *]) rfl ⟨by rw [hfin.out], by (repeat (first | with_reducible exact Below.refl _ _ | with_reducible assumption | with_reducible refine Below.setCell ?_ (by first | omega | (simp; done) | (simp; omega)) _ | with_reducible refine Below.alloc ?_ (by first | omega | (simp; done) | (simp; omega)) _ | with_reducible refine Below.drew ?_ | with_reducible refine Below.trans ?_ (Below.mono (by assumption) (by first | omega | (simp; done) | (simp; omega)))))⟩
        · have hfin := Lib.hid (hadd.trans (addS_no (x := ⟨⟨a, b, c, d⟩, k⟩) (y := ⟨⟨a', b', c', d'⟩, k'⟩) GA.out GB.out (by simp [a1])))
          clear hadd
          go_enter Try.func122, Try.ntmps122
          go_wp2_with fail
          refine (sIsValidD _ _ _ _ _ _).mono ?_
          rintro e w1 ⟨rfl, hb1⟩
          obtain ⟨hc1, hf1, hz1⟩ := bcell hb1
          try simp at hz1
          have z1_0 : w.heap.size < w1.heap.size := by omega
          have z1_1 : w.heap.size + 1 < w1.heap.size := by omega
          have z1_2 : w.heap.size + 1 + 1 < w1.heap.size := by omega
          go_wp2_with fail
          refine (sIsValidD _ _ _ _ _ _).mono ?_
          rintro e w2 ⟨rfl, hb2⟩
          obtain ⟨hc2, hf2, hz2⟩ := bcell hb2
          try simp at hz2
          have z2_0 : w.heap.size < w2.heap.size := by omega
          have z2_1 : w.heap.size + 1 < w2.heap.size := by omega
          have z2_2 : w.heap.size + 1 + 1 < w2.heap.size := by omega
          go_wp2_with fail
          refine (sMax _ _ _).mono ?_
          rintro e _ ⟨rfl, rfl⟩
          rw [hmax]
          go_wp2_with fail
          refine (sUp _ _ _ _ _ (by omega) _).mono ?_
          rw [HA.out]
          rintro e w4 ⟨rfl, hb4⟩
          obtain ⟨hc4, hf4, hz4⟩ := bcell hb4
          try simp at hz4
          have z4_0 : w.heap.size < w4.heap.size := by omega
          have z4_1 : w.heap.size + 1 < w4.heap.size := by omega
          have z4_2 : w.heap.size + 1 + 1 < w4.heap.size := by omega
          go_wp2_with fail
          refine (sUp _ _ _ _ _ (by omega) _).mono ?_
          rw [HB.out]
          rintro e w5 ⟨rfl, hb5⟩
          obtain ⟨hc5, hf5, hz5⟩ := bcell hb5
          try simp at hz5
          have z5_0 : w.heap.size < w5.heap.size := by omega
          have z5_1 : w.heap.size + 1 < w5.heap.size := by omega
          have z5_2 : w.heap.size + 1 + 1 < w5.heap.size := by omega
          have z5_3 : w4.heap.size < w5.heap.size := by omega
          go_wp2_with fail
          refine (sAddZ _ _ _ _ _ _ _ _ _).mono ?_
          rintro e w6 ⟨rfl, hb6⟩
          obtain ⟨hc6, hf6, hz6⟩ := bcell hb6
          try simp at hz6
          have z6_0 : w.heap.size < w6.heap.size := by omega
          have z6_1 : w.heap.size + 1 < w6.heap.size := by omega
          have z6_2 : w.heap.size + 1 + 1 < w6.heap.size := by omega
          have z6_3 : w4.heap.size < w6.heap.size := by omega
          have z6_4 : w5.heap.size < w6.heap.size := by omega
          go_wp2
          exact bodyPost_ret (v := .tuple #[.agg #[.int .i64 0, .int .i64 0, .int .i64 0, .int .i64 0, .int .i64 0], .bool false]) (by simp [results, Try.results122, go_sem, *]) rfl ⟨by rw [hfin.out], by (repeat (first | with_reducible exact Below.refl _ _ | with_reducible assumption | with_reducible refine Below.setCell ?_ (by first | omega | (simp; done) | (simp; omega)) _ | with_reducible refine Below.alloc ?_ (by first | omega | (simp; done) | (simp; omega)) _ | with_reducible refine Below.drew ?_ | with_reducible refine Below.trans ?_ (Below.mono (by assumption) (by first | omega | (simp; done) | (simp; omega)))))⟩
    · go_enter Try.func122, Try.ntmps122
      go_wp2_with fail
      refine (sIsValidD _ _ _ _ _ _).mono ?_
      rintro e w1 ⟨rfl, hb1⟩
      obtain ⟨hc1, hf1, hz1⟩ := bcell hb1
      try simp at hz1
      have z1_0 : w.heap.size < w1.heap.size := by omega
      have z1_1 : w.heap.size + 1 < w1.heap.size := by omega
      have z1_2 : w.heap.size + 1 + 1 < w1.heap.size := by omega
      go_wp2_with fail
      refine (sIsValidD _ _ _ _ _ _).mono ?_
      rintro e w2 ⟨rfl, hb2⟩
      obtain ⟨hc2, hf2, hz2⟩ := bcell hb2
      try simp at hz2
      have z2_0 : w.heap.size < w2.heap.size := by omega
      have z2_1 : w.heap.size + 1 < w2.heap.size := by omega
      have z2_2 : w.heap.size + 1 + 1 < w2.heap.size := by omega
      go_wp2
      exact bodyPost_ret (v := .tuple #[.agg #[.int .i64 0, .int .i64 0, .int .i64 0, .int .i64 0, .int .i64 0], .bool false]) (by simp [results, Try.results122, go_sem, *]) rfl ⟨by simp [addD, hx, hy], by (repeat (first | with_reducible exact Below.refl _ _ | with_reducible assumption | with_reducible refine Below.setCell ?_ (by first | omega | (simp; done) | (simp; omega)) _ | with_reducible refine Below.alloc ?_ (by first | omega | (simp; done) | (simp; omega)) _ | with_reducible refine Below.drew ?_ | with_reducible refine Below.trans ?_ (Below.mono (by assumption) (by first | omega | (simp; done) | (simp; omega)))))⟩
  · go_enter Try.func122, Try.ntmps122
    go_wp2_with fail
    refine (sIsValidD _ _ _ _ _ _).mono ?_
    rintro e w1 ⟨rfl, hb1⟩
    obtain ⟨hc1, hf1, hz1⟩ := bcell hb1
    try simp at hz1
    have z1_0 : w.heap.size < w1.heap.size := by omega
    have z1_1 : w.heap.size + 1 < w1.heap.size := by omega
    have z1_2 : w.heap.size + 1 + 1 < w1.heap.size := by omega
    go_wp2
    exact bodyPost_ret (v := .tuple #[.agg #[.int .i64 0, .int .i64 0, .int .i64 0, .int .i64 0, .int .i64 0], .bool false]) (by simp [results, Try.results122, go_sem, *]) rfl ⟨by simp [addD, hx], by (repeat (first | with_reducible exact Below.refl _ _ | with_reducible assumption | with_reducible refine Below.setCell ?_ (by first | omega | (simp; done) | (simp; omega)) _ | with_reducible refine Below.alloc ?_ (by first | omega | (simp; done) | (simp; omega)) _ | with_reducible refine Below.drew ?_ | with_reducible refine Below.trans ?_ (Below.mono (by assumption) (by first | omega | (simp; done) | (simp; omega)))))⟩
end Go.Proofs.Yteckhaafdojoeaa
