/- The sum in D[omega]. -/
import Derived.Test.YteckhaafdojoeaaK
import Derived.Test.YteckhaafdojoeaaM3
import Derived.Test.YteckhaafdojoeaaW2
namespace Go.Proofs.Yteckhaafdojoeaa
open Go.RowKit

set_option maxHeartbeats 8000000 in
theorem iAddD (a b c d k a' b' c' d' k' : Int) (w : World) :
    Calls Try.prog 176 #[.agg #[.int .i64 a, .int .i64 b, .int .i64 c, .int .i64 d, .int .i64 k], .agg #[.int .i64 a', .int .i64 b', .int .i64 c', .int .i64 d', .int .i64 k']] w fun e w' => e = .returned (.tuple #[Dv (addD ⟨⟨a, b, c, d⟩, k⟩ ⟨⟨a', b', c', d'⟩, k'⟩).1, .bool (addD ⟨⟨a, b, c, d⟩, k⟩ ⟨⟨a', b', c', d'⟩, k'⟩).2]) ∧ Below w.heap.size w w' := by
  by_cases hx : DO.ok ⟨⟨a, b, c, d⟩, k⟩ = true
  · by_cases hy : DO.ok ⟨⟨a', b', c', d'⟩, k'⟩ = true
    · have xe := ((DO.ok_iff _).1 hx).2.1
      have ye := ((DO.ok_iff _).1 hy).2.1
      dsimp only at xe ye
      obtain ⟨xe1, xe2⟩ := xe
      obtain ⟨ye1, ye2⟩ := ye
      by_cases hlt : k < k'
      · have hadd : addD ⟨⟨a, b, c, d⟩, k⟩ ⟨⟨a', b', c', d'⟩, k'⟩ = addG ⟨⟨a', b', c', d'⟩, k'⟩ ⟨⟨a, b, c, d⟩, k⟩ := by simp only [addD, hx, hy, Bool.and_self, if_true, if_pos hlt]
        have hadd := Lib.hid hadd
        go_enter Try.func176, Try.ntmps176
        go_wp2_with fail
        refine (iIsValidD _ _ _ _ _ _).mono ?_
        rintro e w1 ⟨rfl, hb1⟩
        obtain ⟨hc1, hf1, hz1⟩ := bcell hb1
        try simp at hz1
        have z1_0 : w.heap.size < w1.heap.size := by omega
        have z1_1 : w.heap.size + 1 < w1.heap.size := by omega
        have z1_2 : w.heap.size + 1 + 1 < w1.heap.size := by omega
        go_wp2_with fail
        refine (iIsValidD _ _ _ _ _ _).mono ?_
        rintro e w2 ⟨rfl, hb2⟩
        obtain ⟨hc2, hf2, hz2⟩ := bcell hb2
        try simp at hz2
        have z2_0 : w.heap.size < w2.heap.size := by omega
        have z2_1 : w.heap.size + 1 < w2.heap.size := by omega
        have z2_2 : w.heap.size + 1 + 1 < w2.heap.size := by omega
        go_wp2
        skip
        go_loopw [7] (fun v wr => ∃ (n : Z4) (j : Int), v = .int .i64 j ∧ k ≤ j ∧ j ≤ k' ∧ Hid (up (k' - j).toNat n = up (k' - k).toNat ⟨a, b, c, d⟩) ∧ Blk wr w.heap.size [.int .i64 a', .int .i64 b', .int .i64 c', .int .i64 d', .int .i64 k'] 114 ∧ Blk wr (w.heap.size + 1) [.int .i64 a, .int .i64 b, .int .i64 c, .int .i64 d, .int .i64 k] 114 ∧ Blk wr (w.heap.size + 1 + 1) [.int .i64 0, .int .i64 0, .int .i64 0, .int .i64 0, .int .i64 0] 114 ∧ Blk wr w2.heap.size [.int .i64 n.a, .int .i64 n.b, .int .i64 n.c, .int .i64 n.d] 112 ∧ Below w.heap.size w wr) (fun v _ => (k' - intOf v).toNat)
        case atStart => exact ⟨⟨a, b, c, d⟩, k, rfl, by omega, by omega, rfl, by (repeat (first | with_reducible assumption | with_reducible exact Blk.new' _ _ (by first | omega | (simp; done) | (simp; omega)) | with_reducible apply Blk.set5 | with_reducible apply Blk.set4 | with_reducible refine Blk.other ?_ (by first | omega | (simp; done) | (simp; omega)) _ | with_reducible refine Blk.drew ?_ | with_reducible refine Blk.alloc ?_ _ | with_reducible refine Blk.below ?_ (by assumption) (by first | omega | (simp; done) | (simp; omega)))), by (repeat (first | with_reducible assumption | with_reducible exact Blk.new' _ _ (by first | omega | (simp; done) | (simp; omega)) | with_reducible apply Blk.set5 | with_reducible apply Blk.set4 | with_reducible refine Blk.other ?_ (by first | omega | (simp; done) | (simp; omega)) _ | with_reducible refine Blk.drew ?_ | with_reducible refine Blk.alloc ?_ _ | with_reducible refine Blk.below ?_ (by assumption) (by first | omega | (simp; done) | (simp; omega)))), by (repeat (first | with_reducible assumption | with_reducible exact Blk.new' _ _ (by first | omega | (simp; done) | (simp; omega)) | with_reducible apply Blk.set5 | with_reducible apply Blk.set4 | with_reducible refine Blk.other ?_ (by first | omega | (simp; done) | (simp; omega)) _ | with_reducible refine Blk.drew ?_ | with_reducible refine Blk.alloc ?_ _ | with_reducible refine Blk.below ?_ (by assumption) (by first | omega | (simp; done) | (simp; omega)))), by (repeat (first | with_reducible assumption | with_reducible exact Blk.new' _ _ (by first | omega | (simp; done) | (simp; omega)) | with_reducible apply Blk.set5 | with_reducible apply Blk.set4 | with_reducible refine Blk.other ?_ (by first | omega | (simp; done) | (simp; omega)) _ | with_reducible refine Blk.drew ?_ | with_reducible refine Blk.alloc ?_ _ | with_reducible refine Blk.below ?_ (by assumption) (by first | omega | (simp; done) | (simp; omega)))), by (repeat (first | with_reducible exact Below.refl _ _ | with_reducible assumption | with_reducible refine Below.setCell ?_ (by first | omega | (simp; done) | (simp; omega)) _ | with_reducible refine Below.alloc ?_ (by first | omega | (simp; done) | (simp; omega)) _ | with_reducible refine Below.drew ?_ | with_reducible refine Below.trans ?_ (Below.mono (by assumption) (by first | omega | (simp; done) | (simp; omega)))))⟩
        case round =>
          obtain ⟨⟨p, q, r, s⟩, j, rfl, h0, h1, hinv, hB, hB1, hB2, hN, hb0⟩ := hrel
          dsimp only at hN
          obtain ⟨cB, fB, sB⟩ := hB.facts
          obtain ⟨cB1, fB1, sB1⟩ := hB1.facts
          obtain ⟨cB2, fB2, sB2⟩ := hB2.facts
          obtain ⟨cN, fN, sN⟩ := hN.facts
          clear hc1 hf1 hc2 hf2 hz1 hz2
          by_cases hj : j < k'
          · by_cases hm : (mulZ ⟨p, q, r, s⟩ ⟨0, 1, 0, -1⟩).2 = true
            · go_wp2
              go_region_held3 (fun w' => Below wr.heap.size wr w' ∧ (∀ b o, b < wr.heap.size → w'.cell? ⟨b, o, none⟩ = wr.cell? ⟨b, o, none⟩) ∧ (∀ b o, b < wr.heap.size → w'.frozen? ⟨b, o, none⟩ = wr.frozen? ⟨b, o, none⟩) ∧ wr.heap.size ≤ w'.heap.size) ((exact bpack (by (repeat (first | with_reducible exact Below.refl _ _ | with_reducible assumption | with_reducible refine Below.setCell ?_ (by first | omega | (simp; done) | (simp; omega)) _ | with_reducible refine Below.alloc ?_ (by first | omega | (simp; done) | (simp; omega)) _ | with_reducible refine Below.drew ?_ | with_reducible refine Below.trans ?_ (Below.mono (by assumption) (by first | omega | (simp; done) | (simp; omega)))))))) (first | (go_at_call 197; refine (iRoot _).mono ?_; rintro e wa ⟨rfl, hb⟩; obtain ⟨hc, hf, hz⟩ := bcell hb; (try simp only [World.size_drew, World.cell?_drew, World.frozen?_drew] at hc hf hz); (try simp at hz); (try have z0 : w.heap.size < wa.heap.size := by omega); (try have z1 : w.heap.size + 1 < wa.heap.size := by omega); (try have z2 : w.heap.size + 1 + 1 < wa.heap.size := by omega); (try have z3 : w2.heap.size < wa.heap.size := by omega); (try have z4 : wr.heap.size < wa.heap.size := by omega)) | (go_at_call 174; refine (iMulZ _ _ _ _ _ _ _ _ _).mono ?_; rintro e wb ⟨rfl, hb⟩; obtain ⟨hc, hf, hz⟩ := bcell hb; (try simp only [World.size_drew, World.cell?_drew, World.frozen?_drew] at hc hf hz); (try simp at hz); (try have z0 : w.heap.size < wb.heap.size := by omega); (try have z1 : w.heap.size + 1 < wb.heap.size := by omega); (try have z2 : w.heap.size + 1 + 1 < wb.heap.size := by omega); (try have z3 : w2.heap.size < wb.heap.size := by omega); (try have z4 : wr.heap.size < wb.heap.size := by omega); (try have z5 : wa.heap.size < wb.heap.size := by omega)))
              all_goals go_wp2
              all_goals go_roundw
              all_goals first
                | exact ⟨(mulZ ⟨p, q, r, s⟩ ⟨0, 1, 0, -1⟩).1, j + 1, rfl, by omega, by omega, up_more hj hinv.out hm, by (repeat (first | with_reducible assumption | with_reducible exact Blk.new' _ _ (by first | omega | (simp; done) | (simp; omega)) | with_reducible apply Blk.set5 | with_reducible apply Blk.set4 | with_reducible refine Blk.other ?_ (by first | omega | (simp; done) | (simp; omega)) _ | with_reducible refine Blk.drew ?_ | with_reducible refine Blk.alloc ?_ _ | with_reducible refine Blk.below ?_ (by assumption) (by first | omega | (simp; done) | (simp; omega)))), by (repeat (first | with_reducible assumption | with_reducible exact Blk.new' _ _ (by first | omega | (simp; done) | (simp; omega)) | with_reducible apply Blk.set5 | with_reducible apply Blk.set4 | with_reducible refine Blk.other ?_ (by first | omega | (simp; done) | (simp; omega)) _ | with_reducible refine Blk.drew ?_ | with_reducible refine Blk.alloc ?_ _ | with_reducible refine Blk.below ?_ (by assumption) (by first | omega | (simp; done) | (simp; omega)))), by (repeat (first | with_reducible assumption | with_reducible exact Blk.new' _ _ (by first | omega | (simp; done) | (simp; omega)) | with_reducible apply Blk.set5 | with_reducible apply Blk.set4 | with_reducible refine Blk.other ?_ (by first | omega | (simp; done) | (simp; omega)) _ | with_reducible refine Blk.drew ?_ | with_reducible refine Blk.alloc ?_ _ | with_reducible refine Blk.below ?_ (by assumption) (by first | omega | (simp; done) | (simp; omega)))), by (repeat (first | with_reducible assumption | with_reducible exact Blk.new' _ _ (by first | omega | (simp; done) | (simp; omega)) | with_reducible apply Blk.set5 | with_reducible apply Blk.set4 | with_reducible refine Blk.other ?_ (by first | omega | (simp; done) | (simp; omega)) _ | with_reducible refine Blk.drew ?_ | with_reducible refine Blk.alloc ?_ _ | with_reducible refine Blk.below ?_ (by assumption) (by first | omega | (simp; done) | (simp; omega)))), by (repeat (first | with_reducible exact Below.refl _ _ | with_reducible assumption | with_reducible refine Below.setCell ?_ (by first | omega | (simp; done) | (simp; omega)) _ | with_reducible refine Below.alloc ?_ (by first | omega | (simp; done) | (simp; omega)) _ | with_reducible refine Below.drew ?_ | with_reducible refine Below.trans ?_ (Below.mono (by assumption) (by first | omega | (simp; done) | (simp; omega)))))⟩
                | (simp [intOf]; omega)
            · have hfin := Lib.hid (hadd.out.trans (addG_fail (x := ⟨⟨a', b', c', d'⟩, k'⟩) (y := ⟨⟨a, b, c, d⟩, k⟩) (up_fail hj hinv.out hm)))
              go_wp2
              go_region_held3 (fun w' => Below wr.heap.size wr w' ∧ (∀ b o, b < wr.heap.size → w'.cell? ⟨b, o, none⟩ = wr.cell? ⟨b, o, none⟩) ∧ (∀ b o, b < wr.heap.size → w'.frozen? ⟨b, o, none⟩ = wr.frozen? ⟨b, o, none⟩) ∧ wr.heap.size ≤ w'.heap.size) ((exact bpack (by (repeat (first | with_reducible exact Below.refl _ _ | with_reducible assumption | with_reducible refine Below.setCell ?_ (by first | omega | (simp; done) | (simp; omega)) _ | with_reducible refine Below.alloc ?_ (by first | omega | (simp; done) | (simp; omega)) _ | with_reducible refine Below.drew ?_ | with_reducible refine Below.trans ?_ (Below.mono (by assumption) (by first | omega | (simp; done) | (simp; omega)))))))) (first | (go_at_call 197; refine (iRoot _).mono ?_; rintro e wa ⟨rfl, hb⟩; obtain ⟨hc, hf, hz⟩ := bcell hb; (try simp only [World.size_drew, World.cell?_drew, World.frozen?_drew] at hc hf hz); (try simp at hz); (try have z0 : w.heap.size < wa.heap.size := by omega); (try have z1 : w.heap.size + 1 < wa.heap.size := by omega); (try have z2 : w.heap.size + 1 + 1 < wa.heap.size := by omega); (try have z3 : w2.heap.size < wa.heap.size := by omega); (try have z4 : wr.heap.size < wa.heap.size := by omega)) | (go_at_call 174; refine (iMulZ _ _ _ _ _ _ _ _ _).mono ?_; rintro e wb ⟨rfl, hb⟩; obtain ⟨hc, hf, hz⟩ := bcell hb; (try simp only [World.size_drew, World.cell?_drew, World.frozen?_drew] at hc hf hz); (try simp at hz); (try have z0 : w.heap.size < wb.heap.size := by omega); (try have z1 : w.heap.size + 1 < wb.heap.size := by omega); (try have z2 : w.heap.size + 1 + 1 < wb.heap.size := by omega); (try have z3 : w2.heap.size < wb.heap.size := by omega); (try have z4 : wr.heap.size < wb.heap.size := by omega); (try have z5 : wa.heap.size < wb.heap.size := by omega)))
              all_goals go_wp2
              all_goals exact bodyPost_ret (v := .tuple #[.agg #[.int .i64 0, .int .i64 0, .int .i64 0, .int .i64 0, .int .i64 0], .bool false]) (by simp [results, Try.results176, go_sem, *]) rfl ⟨by rw [hfin.out], by (repeat (first | with_reducible exact Below.refl _ _ | with_reducible assumption | with_reducible refine Below.setCell ?_ (by first | omega | (simp; done) | (simp; omega)) _ | with_reducible refine Below.alloc ?_ (by first | omega | (simp; done) | (simp; omega)) _ | with_reducible refine Below.drew ?_ | with_reducible refine Below.trans ?_ (Below.mono (by assumption) (by first | omega | (simp; done) | (simp; omega)))))⟩
          · have hu := up_stop hj hinv.out
            obtain rfl : j = k' := by omega
            by_cases ha : (addZ ⟨a', b', c', d'⟩ ⟨p, q, r, s⟩).2 = true
            · have hfin := Lib.hid (hadd.out.trans (addG_yes (x := ⟨⟨a', b', c', d'⟩, j⟩) (y := ⟨⟨a, b, c, d⟩, k⟩) hu ha))
              clear hu
              go_wp2_with fail
              refine (iAddZ _ _ _ _ _ _ _ _ _).mono ?_
              rintro e x1 ⟨rfl, hbx1⟩
              obtain ⟨hcx1, hfx1, hzx1⟩ := bcell hbx1
              try simp at hzx1
              have zx1_0 : w.heap.size < x1.heap.size := by omega
              have zx1_1 : w.heap.size + 1 < x1.heap.size := by omega
              have zx1_2 : w.heap.size + 1 + 1 < x1.heap.size := by omega
              have zx1_3 : w2.heap.size < x1.heap.size := by omega
              go_wp2_with fail
              refine (iNew _ _ _ _ _ _).mono ?_
              rintro e x2 ⟨rfl, hbx2⟩
              obtain ⟨hcx2, hfx2, hzx2⟩ := bcell hbx2
              try simp at hzx2
              have zx2_0 : w.heap.size < x2.heap.size := by omega
              have zx2_1 : w.heap.size + 1 < x2.heap.size := by omega
              have zx2_2 : w.heap.size + 1 + 1 < x2.heap.size := by omega
              have zx2_3 : w2.heap.size < x2.heap.size := by omega
              have zx2_4 : x1.heap.size < x2.heap.size := by omega
              go_wp2
              exact bodyPost_ret (v := .tuple #[Dv (newD (addZ ⟨a', b', c', d'⟩ ⟨p, q, r, s⟩).1 j).1, .bool (newD (addZ ⟨a', b', c', d'⟩ ⟨p, q, r, s⟩).1 j).2]) (by simp [results, Try.results176, go_sem, *]) rfl ⟨by rw [hfin.out], by (repeat (first | with_reducible exact Below.refl _ _ | with_reducible assumption | with_reducible refine Below.setCell ?_ (by first | omega | (simp; done) | (simp; omega)) _ | with_reducible refine Below.alloc ?_ (by first | omega | (simp; done) | (simp; omega)) _ | with_reducible refine Below.drew ?_ | with_reducible refine Below.trans ?_ (Below.mono (by assumption) (by first | omega | (simp; done) | (simp; omega)))))⟩
            · have hfin := Lib.hid (hadd.out.trans (addG_no (x := ⟨⟨a', b', c', d'⟩, j⟩) (y := ⟨⟨a, b, c, d⟩, k⟩) hu ha))
              clear hu
              go_wp2_with fail
              refine (iAddZ _ _ _ _ _ _ _ _ _).mono ?_
              rintro e x1 ⟨rfl, hbx1⟩
              obtain ⟨hcx1, hfx1, hzx1⟩ := bcell hbx1
              try simp at hzx1
              have zx1_0 : w.heap.size < x1.heap.size := by omega
              have zx1_1 : w.heap.size + 1 < x1.heap.size := by omega
              have zx1_2 : w.heap.size + 1 + 1 < x1.heap.size := by omega
              have zx1_3 : w2.heap.size < x1.heap.size := by omega
              go_wp2
              exact bodyPost_ret (v := .tuple #[.agg #[.int .i64 0, .int .i64 0, .int .i64 0, .int .i64 0, .int .i64 0], .bool false]) (by simp [results, Try.results176, go_sem, *]) rfl ⟨by rw [hfin.out], by (repeat (first | with_reducible exact Below.refl _ _ | with_reducible assumption | with_reducible refine Below.setCell ?_ (by first | omega | (simp; done) | (simp; omega)) _ | with_reducible refine Below.alloc ?_ (by first | omega | (simp; done) | (simp; omega)) _ | with_reducible refine Below.drew ?_ | with_reducible refine Below.trans ?_ (Below.mono (by assumption) (by first | omega | (simp; done) | (simp; omega)))))⟩
      · have hadd : addD ⟨⟨a, b, c, d⟩, k⟩ ⟨⟨a', b', c', d'⟩, k'⟩ = addG ⟨⟨a, b, c, d⟩, k⟩ ⟨⟨a', b', c', d'⟩, k'⟩ := by simp only [addD, hx, hy, Bool.and_self, if_true, if_neg hlt]
        have hadd := Lib.hid hadd
        go_enter Try.func176, Try.ntmps176
        go_wp2_with fail
        refine (iIsValidD _ _ _ _ _ _).mono ?_
        rintro e w1 ⟨rfl, hb1⟩
        obtain ⟨hc1, hf1, hz1⟩ := bcell hb1
        try simp at hz1
        have z1_0 : w.heap.size < w1.heap.size := by omega
        have z1_1 : w.heap.size + 1 < w1.heap.size := by omega
        have z1_2 : w.heap.size + 1 + 1 < w1.heap.size := by omega
        go_wp2_with fail
        refine (iIsValidD _ _ _ _ _ _).mono ?_
        rintro e w2 ⟨rfl, hb2⟩
        obtain ⟨hc2, hf2, hz2⟩ := bcell hb2
        try simp at hz2
        have z2_0 : w.heap.size < w2.heap.size := by omega
        have z2_1 : w.heap.size + 1 < w2.heap.size := by omega
        have z2_2 : w.heap.size + 1 + 1 < w2.heap.size := by omega
        go_wp2
        skip
        go_loopw [7] (fun v wr => ∃ (n : Z4) (j : Int), v = .int .i64 j ∧ k' ≤ j ∧ j ≤ k ∧ Hid (up (k - j).toNat n = up (k - k').toNat ⟨a', b', c', d'⟩) ∧ Blk wr w.heap.size [.int .i64 a, .int .i64 b, .int .i64 c, .int .i64 d, .int .i64 k] 114 ∧ Blk wr (w.heap.size + 1) [.int .i64 a', .int .i64 b', .int .i64 c', .int .i64 d', .int .i64 k'] 114 ∧ Blk wr (w.heap.size + 1 + 1) [.int .i64 0, .int .i64 0, .int .i64 0, .int .i64 0, .int .i64 0] 114 ∧ Blk wr w2.heap.size [.int .i64 n.a, .int .i64 n.b, .int .i64 n.c, .int .i64 n.d] 112 ∧ Below w.heap.size w wr) (fun v _ => (k - intOf v).toNat)
        case atStart => exact ⟨⟨a', b', c', d'⟩, k', rfl, by omega, by omega, rfl, by (repeat (first | with_reducible assumption | with_reducible exact Blk.new' _ _ (by first | omega | (simp; done) | (simp; omega)) | with_reducible apply Blk.set5 | with_reducible apply Blk.set4 | with_reducible refine Blk.other ?_ (by first | omega | (simp; done) | (simp; omega)) _ | with_reducible refine Blk.drew ?_ | with_reducible refine Blk.alloc ?_ _ | with_reducible refine Blk.below ?_ (by assumption) (by first | omega | (simp; done) | (simp; omega)))), by (repeat (first | with_reducible assumption | with_reducible exact Blk.new' _ _ (by first | omega | (simp; done) | (simp; omega)) | with_reducible apply Blk.set5 | with_reducible apply Blk.set4 | with_reducible refine Blk.other ?_ (by first | omega | (simp; done) | (simp; omega)) _ | with_reducible refine Blk.drew ?_ | with_reducible refine Blk.alloc ?_ _ | with_reducible refine Blk.below ?_ (by assumption) (by first | omega | (simp; done) | (simp; omega)))), by (repeat (first | with_reducible assumption | with_reducible exact Blk.new' _ _ (by first | omega | (simp; done) | (simp; omega)) | with_reducible apply Blk.set5 | with_reducible apply Blk.set4 | with_reducible refine Blk.other ?_ (by first | omega | (simp; done) | (simp; omega)) _ | with_reducible refine Blk.drew ?_ | with_reducible refine Blk.alloc ?_ _ | with_reducible refine Blk.below ?_ (by assumption) (by first | omega | (simp; done) | (simp; omega)))), by (repeat (first | with_reducible assumption | with_reducible exact Blk.new' _ _ (by first | omega | (simp; done) | (simp; omega)) | with_reducible apply Blk.set5 | with_reducible apply Blk.set4 | with_reducible refine Blk.other ?_ (by first | omega | (simp; done) | (simp; omega)) _ | with_reducible refine Blk.drew ?_ | with_reducible refine Blk.alloc ?_ _ | with_reducible refine Blk.below ?_ (by assumption) (by first | omega | (simp; done) | (simp; omega)))), by (repeat (first | with_reducible exact Below.refl _ _ | with_reducible assumption | with_reducible refine Below.setCell ?_ (by first | omega | (simp; done) | (simp; omega)) _ | with_reducible refine Below.alloc ?_ (by first | omega | (simp; done) | (simp; omega)) _ | with_reducible refine Below.drew ?_ | with_reducible refine Below.trans ?_ (Below.mono (by assumption) (by first | omega | (simp; done) | (simp; omega)))))⟩
        case round =>
          obtain ⟨⟨p, q, r, s⟩, j, rfl, h0, h1, hinv, hB, hB1, hB2, hN, hb0⟩ := hrel
          dsimp only at hN
          obtain ⟨cB, fB, sB⟩ := hB.facts
          obtain ⟨cB1, fB1, sB1⟩ := hB1.facts
          obtain ⟨cB2, fB2, sB2⟩ := hB2.facts
          obtain ⟨cN, fN, sN⟩ := hN.facts
          clear hc1 hf1 hc2 hf2 hz1 hz2
          by_cases hj : j < k
          · by_cases hm : (mulZ ⟨p, q, r, s⟩ ⟨0, 1, 0, -1⟩).2 = true
            · go_wp2
              go_region_held3 (fun w' => Below wr.heap.size wr w' ∧ (∀ b o, b < wr.heap.size → w'.cell? ⟨b, o, none⟩ = wr.cell? ⟨b, o, none⟩) ∧ (∀ b o, b < wr.heap.size → w'.frozen? ⟨b, o, none⟩ = wr.frozen? ⟨b, o, none⟩) ∧ wr.heap.size ≤ w'.heap.size) ((exact bpack (by (repeat (first | with_reducible exact Below.refl _ _ | with_reducible assumption | with_reducible refine Below.setCell ?_ (by first | omega | (simp; done) | (simp; omega)) _ | with_reducible refine Below.alloc ?_ (by first | omega | (simp; done) | (simp; omega)) _ | with_reducible refine Below.drew ?_ | with_reducible refine Below.trans ?_ (Below.mono (by assumption) (by first | omega | (simp; done) | (simp; omega)))))))) (first | (go_at_call 197; refine (iRoot _).mono ?_; rintro e wa ⟨rfl, hb⟩; obtain ⟨hc, hf, hz⟩ := bcell hb; (try simp only [World.size_drew, World.cell?_drew, World.frozen?_drew] at hc hf hz); (try simp at hz); (try have z0 : w.heap.size < wa.heap.size := by omega); (try have z1 : w.heap.size + 1 < wa.heap.size := by omega); (try have z2 : w.heap.size + 1 + 1 < wa.heap.size := by omega); (try have z3 : w2.heap.size < wa.heap.size := by omega); (try have z4 : wr.heap.size < wa.heap.size := by omega)) | (go_at_call 174; refine (iMulZ _ _ _ _ _ _ _ _ _).mono ?_; rintro e wb ⟨rfl, hb⟩; obtain ⟨hc, hf, hz⟩ := bcell hb; (try simp only [World.size_drew, World.cell?_drew, World.frozen?_drew] at hc hf hz); (try simp at hz); (try have z0 : w.heap.size < wb.heap.size := by omega); (try have z1 : w.heap.size + 1 < wb.heap.size := by omega); (try have z2 : w.heap.size + 1 + 1 < wb.heap.size := by omega); (try have z3 : w2.heap.size < wb.heap.size := by omega); (try have z4 : wr.heap.size < wb.heap.size := by omega); (try have z5 : wa.heap.size < wb.heap.size := by omega)))
              all_goals go_wp2
              all_goals go_roundw
              all_goals first
                | exact ⟨(mulZ ⟨p, q, r, s⟩ ⟨0, 1, 0, -1⟩).1, j + 1, rfl, by omega, by omega, up_more hj hinv.out hm, by (repeat (first | with_reducible assumption | with_reducible exact Blk.new' _ _ (by first | omega | (simp; done) | (simp; omega)) | with_reducible apply Blk.set5 | with_reducible apply Blk.set4 | with_reducible refine Blk.other ?_ (by first | omega | (simp; done) | (simp; omega)) _ | with_reducible refine Blk.drew ?_ | with_reducible refine Blk.alloc ?_ _ | with_reducible refine Blk.below ?_ (by assumption) (by first | omega | (simp; done) | (simp; omega)))), by (repeat (first | with_reducible assumption | with_reducible exact Blk.new' _ _ (by first | omega | (simp; done) | (simp; omega)) | with_reducible apply Blk.set5 | with_reducible apply Blk.set4 | with_reducible refine Blk.other ?_ (by first | omega | (simp; done) | (simp; omega)) _ | with_reducible refine Blk.drew ?_ | with_reducible refine Blk.alloc ?_ _ | with_reducible refine Blk.below ?_ (by assumption) (by first | omega | (simp; done) | (simp; omega)))), by (repeat (first | with_reducible assumption | with_reducible exact Blk.new' _ _ (by first | omega | (simp; done) | (simp; omega)) | with_reducible apply Blk.set5 | with_reducible apply Blk.set4 | with_reducible refine Blk.other ?_ (by first | omega | (simp; done) | (simp; omega)) _ | with_reducible refine Blk.drew ?_ | with_reducible refine Blk.alloc ?_ _ | with_reducible refine Blk.below ?_ (by assumption) (by first | omega | (simp; done) | (simp; omega)))), by (repeat (first | with_reducible assumption | with_reducible exact Blk.new' _ _ (by first | omega | (simp; done) | (simp; omega)) | with_reducible apply Blk.set5 | with_reducible apply Blk.set4 | with_reducible refine Blk.other ?_ (by first | omega | (simp; done) | (simp; omega)) _ | with_reducible refine Blk.drew ?_ | with_reducible refine Blk.alloc ?_ _ | with_reducible refine Blk.below ?_ (by assumption) (by first | omega | (simp; done) | (simp; omega)))), by (repeat (first | with_reducible exact Below.refl _ _ | with_reducible assumption | with_reducible refine Below.setCell ?_ (by first | omega | (simp; done) | (simp; omega)) _ | with_reducible refine Below.alloc ?_ (by first | omega | (simp; done) | (simp; omega)) _ | with_reducible refine Below.drew ?_ | with_reducible refine Below.trans ?_ (Below.mono (by assumption) (by first | omega | (simp; done) | (simp; omega)))))⟩
                | (simp [intOf]; omega)
            · have hfin := Lib.hid (hadd.out.trans (addG_fail (x := ⟨⟨a, b, c, d⟩, k⟩) (y := ⟨⟨a', b', c', d'⟩, k'⟩) (up_fail hj hinv.out hm)))
              go_wp2
              go_region_held3 (fun w' => Below wr.heap.size wr w' ∧ (∀ b o, b < wr.heap.size → w'.cell? ⟨b, o, none⟩ = wr.cell? ⟨b, o, none⟩) ∧ (∀ b o, b < wr.heap.size → w'.frozen? ⟨b, o, none⟩ = wr.frozen? ⟨b, o, none⟩) ∧ wr.heap.size ≤ w'.heap.size) ((exact bpack (by (repeat (first | with_reducible exact Below.refl _ _ | with_reducible assumption | with_reducible refine Below.setCell ?_ (by first | omega | (simp; done) | (simp; omega)) _ | with_reducible refine Below.alloc ?_ (by first | omega | (simp; done) | (simp; omega)) _ | with_reducible refine Below.drew ?_ | with_reducible refine Below.trans ?_ (Below.mono (by assumption) (by first | omega | (simp; done) | (simp; omega)))))))) (first | (go_at_call 197; refine (iRoot _).mono ?_; rintro e wa ⟨rfl, hb⟩; obtain ⟨hc, hf, hz⟩ := bcell hb; (try simp only [World.size_drew, World.cell?_drew, World.frozen?_drew] at hc hf hz); (try simp at hz); (try have z0 : w.heap.size < wa.heap.size := by omega); (try have z1 : w.heap.size + 1 < wa.heap.size := by omega); (try have z2 : w.heap.size + 1 + 1 < wa.heap.size := by omega); (try have z3 : w2.heap.size < wa.heap.size := by omega); (try have z4 : wr.heap.size < wa.heap.size := by omega)) | (go_at_call 174; refine (iMulZ _ _ _ _ _ _ _ _ _).mono ?_; rintro e wb ⟨rfl, hb⟩; obtain ⟨hc, hf, hz⟩ := bcell hb; (try simp only [World.size_drew, World.cell?_drew, World.frozen?_drew] at hc hf hz); (try simp at hz); (try have z0 : w.heap.size < wb.heap.size := by omega); (try have z1 : w.heap.size + 1 < wb.heap.size := by omega); (try have z2 : w.heap.size + 1 + 1 < wb.heap.size := by omega); (try have z3 : w2.heap.size < wb.heap.size := by omega); (try have z4 : wr.heap.size < wb.heap.size := by omega); (try have z5 : wa.heap.size < wb.heap.size := by omega)))
              all_goals go_wp2
              all_goals exact bodyPost_ret (v := .tuple #[.agg #[.int .i64 0, .int .i64 0, .int .i64 0, .int .i64 0, .int .i64 0], .bool false]) (by simp [results, Try.results176, go_sem, *]) rfl ⟨by rw [hfin.out], by (repeat (first | with_reducible exact Below.refl _ _ | with_reducible assumption | with_reducible refine Below.setCell ?_ (by first | omega | (simp; done) | (simp; omega)) _ | with_reducible refine Below.alloc ?_ (by first | omega | (simp; done) | (simp; omega)) _ | with_reducible refine Below.drew ?_ | with_reducible refine Below.trans ?_ (Below.mono (by assumption) (by first | omega | (simp; done) | (simp; omega)))))⟩
          · have hu := up_stop hj hinv.out
            obtain rfl : j = k := by omega
            by_cases ha : (addZ ⟨a, b, c, d⟩ ⟨p, q, r, s⟩).2 = true
            · have hfin := Lib.hid (hadd.out.trans (addG_yes (x := ⟨⟨a, b, c, d⟩, j⟩) (y := ⟨⟨a', b', c', d'⟩, k'⟩) hu ha))
              clear hu
              go_wp2_with fail
              refine (iAddZ _ _ _ _ _ _ _ _ _).mono ?_
              rintro e x1 ⟨rfl, hbx1⟩
              obtain ⟨hcx1, hfx1, hzx1⟩ := bcell hbx1
              try simp at hzx1
              have zx1_0 : w.heap.size < x1.heap.size := by omega
              have zx1_1 : w.heap.size + 1 < x1.heap.size := by omega
              have zx1_2 : w.heap.size + 1 + 1 < x1.heap.size := by omega
              have zx1_3 : w2.heap.size < x1.heap.size := by omega
              go_wp2_with fail
              refine (iNew _ _ _ _ _ _).mono ?_
              rintro e x2 ⟨rfl, hbx2⟩
              obtain ⟨hcx2, hfx2, hzx2⟩ := bcell hbx2
              try simp at hzx2
              have zx2_0 : w.heap.size < x2.heap.size := by omega
              have zx2_1 : w.heap.size + 1 < x2.heap.size := by omega
              have zx2_2 : w.heap.size + 1 + 1 < x2.heap.size := by omega
              have zx2_3 : w2.heap.size < x2.heap.size := by omega
              have zx2_4 : x1.heap.size < x2.heap.size := by omega
              go_wp2
              exact bodyPost_ret (v := .tuple #[Dv (newD (addZ ⟨a, b, c, d⟩ ⟨p, q, r, s⟩).1 j).1, .bool (newD (addZ ⟨a, b, c, d⟩ ⟨p, q, r, s⟩).1 j).2]) (by simp [results, Try.results176, go_sem, *]) rfl ⟨by rw [hfin.out], by (repeat (first | with_reducible exact Below.refl _ _ | with_reducible assumption | with_reducible refine Below.setCell ?_ (by first | omega | (simp; done) | (simp; omega)) _ | with_reducible refine Below.alloc ?_ (by first | omega | (simp; done) | (simp; omega)) _ | with_reducible refine Below.drew ?_ | with_reducible refine Below.trans ?_ (Below.mono (by assumption) (by first | omega | (simp; done) | (simp; omega)))))⟩
            · have hfin := Lib.hid (hadd.out.trans (addG_no (x := ⟨⟨a, b, c, d⟩, j⟩) (y := ⟨⟨a', b', c', d'⟩, k'⟩) hu ha))
              clear hu
              go_wp2_with fail
              refine (iAddZ _ _ _ _ _ _ _ _ _).mono ?_
              rintro e x1 ⟨rfl, hbx1⟩
              obtain ⟨hcx1, hfx1, hzx1⟩ := bcell hbx1
              try simp at hzx1
              have zx1_0 : w.heap.size < x1.heap.size := by omega
              have zx1_1 : w.heap.size + 1 < x1.heap.size := by omega
              have zx1_2 : w.heap.size + 1 + 1 < x1.heap.size := by omega
              have zx1_3 : w2.heap.size < x1.heap.size := by omega
              go_wp2
              exact bodyPost_ret (v := .tuple #[.agg #[.int .i64 0, .int .i64 0, .int .i64 0, .int .i64 0, .int .i64 0], .bool false]) (by simp [results, Try.results176, go_sem, *]) rfl ⟨by rw [hfin.out], by (repeat (first | with_reducible exact Below.refl _ _ | with_reducible assumption | with_reducible refine Below.setCell ?_ (by first | omega | (simp; done) | (simp; omega)) _ | with_reducible refine Below.alloc ?_ (by first | omega | (simp; done) | (simp; omega)) _ | with_reducible refine Below.drew ?_ | with_reducible refine Below.trans ?_ (Below.mono (by assumption) (by first | omega | (simp; done) | (simp; omega)))))⟩
    · go_enter Try.func176, Try.ntmps176
      go_wp2_with fail
      refine (iIsValidD _ _ _ _ _ _).mono ?_
      rintro e w1 ⟨rfl, hb1⟩
      obtain ⟨hc1, hf1, hz1⟩ := bcell hb1
      try simp at hz1
      have z1_0 : w.heap.size < w1.heap.size := by omega
      have z1_1 : w.heap.size + 1 < w1.heap.size := by omega
      have z1_2 : w.heap.size + 1 + 1 < w1.heap.size := by omega
      go_wp2_with fail
      refine (iIsValidD _ _ _ _ _ _).mono ?_
      rintro e w2 ⟨rfl, hb2⟩
      obtain ⟨hc2, hf2, hz2⟩ := bcell hb2
      try simp at hz2
      have z2_0 : w.heap.size < w2.heap.size := by omega
      have z2_1 : w.heap.size + 1 < w2.heap.size := by omega
      have z2_2 : w.heap.size + 1 + 1 < w2.heap.size := by omega
      go_wp2
      exact bodyPost_ret (v := .tuple #[.agg #[.int .i64 0, .int .i64 0, .int .i64 0, .int .i64 0, .int .i64 0], .bool false]) (by simp [results, Try.results176, go_sem, *]) rfl ⟨by simp [addD, hx, hy], by (repeat (first | with_reducible exact Below.refl _ _ | with_reducible assumption | with_reducible refine Below.setCell ?_ (by first | omega | (simp; done) | (simp; omega)) _ | with_reducible refine Below.alloc ?_ (by first | omega | (simp; done) | (simp; omega)) _ | with_reducible refine Below.drew ?_ | with_reducible refine Below.trans ?_ (Below.mono (by assumption) (by first | omega | (simp; done) | (simp; omega)))))⟩
  · go_enter Try.func176, Try.ntmps176
    go_wp2_with fail
    refine (iIsValidD _ _ _ _ _ _).mono ?_
    rintro e w1 ⟨rfl, hb1⟩
    obtain ⟨hc1, hf1, hz1⟩ := bcell hb1
    try simp at hz1
    have z1_0 : w.heap.size < w1.heap.size := by omega
    have z1_1 : w.heap.size + 1 < w1.heap.size := by omega
    have z1_2 : w.heap.size + 1 + 1 < w1.heap.size := by omega
    go_wp2
    exact bodyPost_ret (v := .tuple #[.agg #[.int .i64 0, .int .i64 0, .int .i64 0, .int .i64 0, .int .i64 0], .bool false]) (by simp [results, Try.results176, go_sem, *]) rfl ⟨by simp [addD, hx], by (repeat (first | with_reducible exact Below.refl _ _ | with_reducible assumption | with_reducible refine Below.setCell ?_ (by first | omega | (simp; done) | (simp; omega)) _ | with_reducible refine Below.alloc ?_ (by first | omega | (simp; done) | (simp; omega)) _ | with_reducible refine Below.drew ?_ | with_reducible refine Below.trans ?_ (Below.mono (by assumption) (by first | omega | (simp; done) | (simp; omega)))))⟩
end Go.Proofs.Yteckhaafdojoeaa
