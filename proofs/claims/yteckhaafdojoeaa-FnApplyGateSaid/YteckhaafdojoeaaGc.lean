/- Small lemmas on worlds, second part: the class of the worlds that keep what a world holds; matrices and states in memory. · The walks of the arithmetic in D[omega], third part: loops. · The walks of the arithmetic in D[omega], third part: loops. · The walks of the arithmetic in D[omega], fourth part. · The walks of the arithmetic in D[omega], fourth part. · The sum in D[omega]. · The sum in D[omega]. · States in memory: what it means that a slice value reads as a list of numbers, and the walks that only look. · The contracts of the arithmetic, at whole numbers. · The walk of impl.dot. -/
import Derived.Test.YteckhaafdojoeaaGb
import Derived.Deep.RegionHeld3
import Derived.Lib.Hide
import Derived.Test.YteckhaafdojoeaaGa
/-! W2: Small lemmas on worlds, second part: the class of the worlds that keep what a world holds; matrices and states in memory. -/
namespace Go.Proofs.Yteckhaafdojoeaa
open Go.RowKit

/-- The class that a region with calls is walked in. -/
theorem bpack {W w' : World} (hb : Below W.heap.size W w') : Below W.heap.size W w' ∧ (∀ b o, b < W.heap.size → w'.cell? ⟨b, o, none⟩ = W.cell? ⟨b, o, none⟩) ∧ (∀ b o, b < W.heap.size → w'.frozen? ⟨b, o, none⟩ = W.frozen? ⟨b, o, none⟩) ∧ W.heap.size ≤ w'.heap.size :=
  ⟨hb, fun b o h => hb.cell (p := ⟨b, o, none⟩) h, fun b o h => hb.frozen (p := ⟨b, o, none⟩) h, hb.size⟩

/-- What the walk wants behind a call that keeps old memory: the last part lets it see, through several such worlds, that a block is there. -/
theorem bkeep {W w1 : World} (hb : Below W.heap.size W w1) : (∀ b o, b < W.heap.size → w1.cell? ⟨b, o, none⟩ = W.cell? ⟨b, o, none⟩) ∧ (∀ b o, b < W.heap.size → w1.frozen? ⟨b, o, none⟩ = W.frozen? ⟨b, o, none⟩) ∧ W.heap.size ≤ w1.heap.size ∧ (∀ x, x < W.heap.size → x < w1.heap.size) :=
  ⟨fun b o h => hb.cell (p := ⟨b, o, none⟩) h, fun b o h => hb.frozen (p := ⟨b, o, none⟩) h, hb.size, fun _ h => Nat.lt_of_lt_of_le h hb.size⟩

theorem belowDrewN {B : Nat} {a w : World} (h : Below B a w) (n : Nat) : Below B a (w.drewN n) := ⟨h.os, h.tape, h.output, h.size, h.block⟩

end Go.Proofs.Yteckhaafdojoeaa

/-! G: The walks of the arithmetic in D[omega], third part: loops. -/
namespace Go.Proofs.Yteckhaafdojoeaa
open Go.RowKit

set_option maxHeartbeats 4000000 in
theorem iNew (a b c d k : Int) (w : World) :
    Calls Try.prog 175 #[.agg #[.int .i64 a, .int .i64 b, .int .i64 c, .int .i64 d], .int .i64 k] w fun e w' => e = .returned (.tuple #[Dv (newD ⟨a, b, c, d⟩ k).1, .bool (newD ⟨a, b, c, d⟩ k).2]) ∧ Below w.heap.size w w' := by
  by_cases hx : Z4.ok ⟨a, b, c, d⟩ = true
  · by_cases hk : inR 0 120 k = true
    · have hk' := (inR_iff _ _ _).1 hk
      go_enter Try.func175, Try.ntmps175
      go_wp2_with (first | (go_at_call 190; refine (iIsValidZ _ _ _ _ _).mono ?_; rintro e w1 ⟨rfl, hb⟩; obtain ⟨hc, hf, hz⟩ := bcell hb; (try simp at hz); (try have z0 : w.heap.size < w1.heap.size := by omega); (try have z1 : w.heap.size + 1 < w1.heap.size := by omega); (try have z2 : w.heap.size + 1 + 1 < w1.heap.size := by omega); (try have z3 : w.heap.size + 1 + 1 + 1 < w1.heap.size := by omega)) | (go_at_call 116; refine (iIn _ _ _ _).mono ?_; rintro e w1 ⟨rfl, rfl⟩))
      go_loopw [1] (fun v wr => ∃ (n : Z4) (j : Int), v = .int .i64 j ∧ 0 ≤ j ∧ j ≤ 120 ∧ n.ok = true ∧ Hid (newL j.toNat n = newL k.toNat ⟨a, b, c, d⟩) ∧ Blk wr w.heap.size [.int .i64 n.a, .int .i64 n.b, .int .i64 n.c, .int .i64 n.d] 112 ∧ Blk wr (w.heap.size + 1) [.int .i64 0, .int .i64 0, .int .i64 0, .int .i64 0, .int .i64 0] 114 ∧ Below w.heap.size w wr) (fun v _ => (intOf v).toNat)
      case atStart => exact ⟨⟨a, b, c, d⟩, k, rfl, hk'.1, hk'.2, hx, rfl, by (repeat (first | with_reducible assumption | with_reducible exact Blk.new' _ _ (by first | omega | (simp; done) | (simp; omega)) | with_reducible apply Blk.set5 | with_reducible apply Blk.set4 | with_reducible refine Blk.other ?_ (by first | omega | (simp; done) | (simp; omega)) _ | with_reducible refine Blk.drew ?_ | with_reducible refine Blk.alloc ?_ _ | with_reducible refine Blk.below ?_ (by assumption) (by first | omega | (simp; done) | (simp; omega)))), by (repeat (first | with_reducible assumption | with_reducible exact Blk.new' _ _ (by first | omega | (simp; done) | (simp; omega)) | with_reducible apply Blk.set5 | with_reducible apply Blk.set4 | with_reducible refine Blk.other ?_ (by first | omega | (simp; done) | (simp; omega)) _ | with_reducible refine Blk.drew ?_ | with_reducible refine Blk.alloc ?_ _ | with_reducible refine Blk.below ?_ (by assumption) (by first | omega | (simp; done) | (simp; omega)))), by (repeat (first | with_reducible exact Below.refl _ _ | with_reducible assumption | with_reducible refine Below.setCell ?_ (by first | omega | (simp; done) | (simp; omega)) _ | with_reducible refine Below.alloc ?_ (by first | omega | (simp; done) | (simp; omega)) _ | with_reducible refine Below.drew ?_ | with_reducible refine Below.trans ?_ (Below.mono (by assumption) (by first | omega | (simp; done) | (simp; omega)))))⟩
      case round =>
        obtain ⟨⟨p, q, r, s⟩, j, rfl, h0, h1, hn, hinv, hB, hR, hb0⟩ := hrel
        dsimp only at hB
        obtain ⟨cB, fB, sB⟩ := hB.facts
        obtain ⟨cR, fR, sR⟩ := hR.facts
        by_cases hj : 0 < j
        · by_cases hd : (divZ ⟨p, q, r, s⟩).2 = true
          · go_wp2_with (first | (go_at_call 189; refine (iDivZ _ _ _ _ _).mono ?_; rintro e w1 ⟨rfl, hb⟩; obtain ⟨hc, hf, hz⟩ := bcell hb; (try simp at hz); (try have z0 : w.heap.size < w1.heap.size := by omega); (try have z1 : w.heap.size + 1 < w1.heap.size := by omega); (try have z2 : w.heap.size + 1 + 1 < w1.heap.size := by omega); (try have z3 : w.heap.size + 1 + 1 + 1 < w1.heap.size := by omega)))
            go_roundw
            case rel => exact ⟨(divZ ⟨p, q, r, s⟩).1, j - 1, rfl, by omega, by omega, divZ_ok hd, newL_more hj hinv.out hd, by (repeat (first | with_reducible assumption | with_reducible exact Blk.new' _ _ (by first | omega | (simp; done) | (simp; omega)) | with_reducible apply Blk.set5 | with_reducible apply Blk.set4 | with_reducible refine Blk.other ?_ (by first | omega | (simp; done) | (simp; omega)) _ | with_reducible refine Blk.drew ?_ | with_reducible refine Blk.alloc ?_ _ | with_reducible refine Blk.below ?_ (by assumption) (by first | omega | (simp; done) | (simp; omega)))), by (repeat (first | with_reducible assumption | with_reducible exact Blk.new' _ _ (by first | omega | (simp; done) | (simp; omega)) | with_reducible apply Blk.set5 | with_reducible apply Blk.set4 | with_reducible refine Blk.other ?_ (by first | omega | (simp; done) | (simp; omega)) _ | with_reducible refine Blk.drew ?_ | with_reducible refine Blk.alloc ?_ _ | with_reducible refine Blk.below ?_ (by assumption) (by first | omega | (simp; done) | (simp; omega)))), by (repeat (first | with_reducible exact Below.refl _ _ | with_reducible assumption | with_reducible refine Below.setCell ?_ (by first | omega | (simp; done) | (simp; omega)) _ | with_reducible refine Below.alloc ?_ (by first | omega | (simp; done) | (simp; omega)) _ | with_reducible refine Below.drew ?_ | with_reducible refine Below.trans ?_ (Below.mono (by assumption) (by first | omega | (simp; done) | (simp; omega)))))⟩
            case measure => simp [intOf]; omega
          · have hv := newL_end hj hinv.out hd
            by_cases h6 : 60 < j
            · have hfin := Lib.hid (newD_great hx hk hv h6)
              clear hv
              go_wp2_with (first | (go_at_call 189; refine (iDivZ _ _ _ _ _).mono ?_; rintro e w1 ⟨rfl, hb⟩; obtain ⟨hc, hf, hz⟩ := bcell hb; (try simp at hz); (try have z0 : w.heap.size < w1.heap.size := by omega); (try have z1 : w.heap.size + 1 < w1.heap.size := by omega); (try have z2 : w.heap.size + 1 + 1 < w1.heap.size := by omega); (try have z3 : w.heap.size + 1 + 1 + 1 < w1.heap.size := by omega)))
              exact bodyPost_ret (v := .tuple #[.agg #[.int .i64 0, .int .i64 0, .int .i64 0, .int .i64 0, .int .i64 0], .bool false]) (by simp [results, Try.results175, go_sem, *]) rfl ⟨by rw [hfin.out], by (repeat (first | with_reducible exact Below.refl _ _ | with_reducible assumption | with_reducible refine Below.setCell ?_ (by first | omega | (simp; done) | (simp; omega)) _ | with_reducible refine Below.alloc ?_ (by first | omega | (simp; done) | (simp; omega)) _ | with_reducible refine Below.drew ?_ | with_reducible refine Below.trans ?_ (Below.mono (by assumption) (by first | omega | (simp; done) | (simp; omega)))))⟩
            · have hfin := Lib.hid (newD_small hx hk hv h0 h6)
              clear hv
              go_wp2_with (first | (go_at_call 189; refine (iDivZ _ _ _ _ _).mono ?_; rintro e w1 ⟨rfl, hb⟩; obtain ⟨hc, hf, hz⟩ := bcell hb; (try simp at hz); (try have z0 : w.heap.size < w1.heap.size := by omega); (try have z1 : w.heap.size + 1 < w1.heap.size := by omega); (try have z2 : w.heap.size + 1 + 1 < w1.heap.size := by omega); (try have z3 : w.heap.size + 1 + 1 + 1 < w1.heap.size := by omega)))
              exact bodyPost_ret (v := .tuple #[.agg #[.int .i64 p, .int .i64 q, .int .i64 r, .int .i64 s, .int .i64 j], .bool true]) (by simp [results, Try.results175, go_sem, *]) rfl ⟨by rw [hfin.out], by (repeat (first | with_reducible exact Below.refl _ _ | with_reducible assumption | with_reducible refine Below.setCell ?_ (by first | omega | (simp; done) | (simp; omega)) _ | with_reducible refine Below.alloc ?_ (by first | omega | (simp; done) | (simp; omega)) _ | with_reducible refine Below.drew ?_ | with_reducible refine Below.trans ?_ (Below.mono (by assumption) (by first | omega | (simp; done) | (simp; omega)))))⟩
        · have hv := newL_stop hj hinv.out
          have hfin := Lib.hid (newD_small hx hk hv h0 (by omega))
          clear hv
          go_wp2_with (first | (go_at_call 189; refine (iDivZ _ _ _ _ _).mono ?_; rintro e w1 ⟨rfl, hb⟩; obtain ⟨hc, hf, hz⟩ := bcell hb; (try simp at hz); (try have z0 : w.heap.size < w1.heap.size := by omega); (try have z1 : w.heap.size + 1 < w1.heap.size := by omega); (try have z2 : w.heap.size + 1 + 1 < w1.heap.size := by omega); (try have z3 : w.heap.size + 1 + 1 + 1 < w1.heap.size := by omega)))
          exact bodyPost_ret (v := .tuple #[.agg #[.int .i64 p, .int .i64 q, .int .i64 r, .int .i64 s, .int .i64 j], .bool true]) (by simp [results, Try.results175, go_sem, *]) rfl ⟨by rw [hfin.out], by (repeat (first | with_reducible exact Below.refl _ _ | with_reducible assumption | with_reducible refine Below.setCell ?_ (by first | omega | (simp; done) | (simp; omega)) _ | with_reducible refine Below.alloc ?_ (by first | omega | (simp; done) | (simp; omega)) _ | with_reducible refine Below.drew ?_ | with_reducible refine Below.trans ?_ (Below.mono (by assumption) (by first | omega | (simp; done) | (simp; omega)))))⟩
    · go_enter Try.func175, Try.ntmps175
      go_wp2_with (first | (go_at_call 190; refine (iIsValidZ _ _ _ _ _).mono ?_; rintro e w1 ⟨rfl, hb⟩; obtain ⟨hc, hf, hz⟩ := bcell hb; (try simp at hz); (try have z0 : w.heap.size < w1.heap.size := by omega); (try have z1 : w.heap.size + 1 < w1.heap.size := by omega); (try have z2 : w.heap.size + 1 + 1 < w1.heap.size := by omega); (try have z3 : w.heap.size + 1 + 1 + 1 < w1.heap.size := by omega)) | (go_at_call 116; refine (iIn _ _ _ _).mono ?_; rintro e w1 ⟨rfl, rfl⟩))
      exact bodyPost_ret (v := .tuple #[.agg #[.int .i64 0, .int .i64 0, .int .i64 0, .int .i64 0, .int .i64 0], .bool false]) (by simp [results, Try.results175, go_sem, *]) rfl ⟨by simp [newD, hx, hk], by (repeat (first | with_reducible exact Below.refl _ _ | with_reducible assumption | with_reducible refine Below.setCell ?_ (by first | omega | (simp; done) | (simp; omega)) _ | with_reducible refine Below.alloc ?_ (by first | omega | (simp; done) | (simp; omega)) _ | with_reducible refine Below.drew ?_ | with_reducible refine Below.trans ?_ (Below.mono (by assumption) (by first | omega | (simp; done) | (simp; omega)))))⟩
  · go_enter Try.func175, Try.ntmps175
    go_wp2_with (first | (go_at_call 190; refine (iIsValidZ _ _ _ _ _).mono ?_; rintro e w1 ⟨rfl, hb⟩; obtain ⟨hc, hf, hz⟩ := bcell hb; (try simp at hz); (try have z0 : w.heap.size < w1.heap.size := by omega); (try have z1 : w.heap.size + 1 < w1.heap.size := by omega); (try have z2 : w.heap.size + 1 + 1 < w1.heap.size := by omega); (try have z3 : w.heap.size + 1 + 1 + 1 < w1.heap.size := by omega)) | (go_at_call 116; refine (iIn _ _ _ _).mono ?_; rintro e w1 ⟨rfl, rfl⟩))
    exact bodyPost_ret (v := .tuple #[.agg #[.int .i64 0, .int .i64 0, .int .i64 0, .int .i64 0, .int .i64 0], .bool false]) (by simp [results, Try.results175, go_sem, *]) rfl ⟨by simp [newD, hx], by (repeat (first | with_reducible exact Below.refl _ _ | with_reducible assumption | with_reducible refine Below.setCell ?_ (by first | omega | (simp; done) | (simp; omega)) _ | with_reducible refine Below.alloc ?_ (by first | omega | (simp; done) | (simp; omega)) _ | with_reducible refine Below.drew ?_ | with_reducible refine Below.trans ?_ (Below.mono (by assumption) (by first | omega | (simp; done) | (simp; omega)))))⟩
end Go.Proofs.Yteckhaafdojoeaa

/-! H: The walks of the arithmetic in D[omega], third part: loops. -/
namespace Go.Proofs.Yteckhaafdojoeaa
open Go.RowKit

set_option maxHeartbeats 4000000 in
theorem sNew (a b c d k : Int) (w : World) :
    Calls Try.prog 170 #[.agg #[.int .i64 a, .int .i64 b, .int .i64 c, .int .i64 d], .int .i64 k] w fun e w' => e = .returned (.tuple #[Dv (newD ⟨a, b, c, d⟩ k).1, .bool (newD ⟨a, b, c, d⟩ k).2]) ∧ Below w.heap.size w w' := by
  by_cases hx : Z4.ok ⟨a, b, c, d⟩ = true
  · by_cases hk : inR 0 120 k = true
    · have hk' := (inR_iff _ _ _).1 hk
      go_enter Try.func170, Try.ntmps170
      go_wp2_with (first | (go_at_call 193; refine (sIsValidZ _ _ _ _ _).mono ?_; rintro e w1 ⟨rfl, hb⟩; obtain ⟨hc, hf, hz⟩ := bcell hb; (try simp at hz); (try have z0 : w.heap.size < w1.heap.size := by omega); (try have z1 : w.heap.size + 1 < w1.heap.size := by omega); (try have z2 : w.heap.size + 1 + 1 < w1.heap.size := by omega); (try have z3 : w.heap.size + 1 + 1 + 1 < w1.heap.size := by omega)) | (go_at_call 102; refine (sIn _ _ _ _).mono ?_; rintro e w1 ⟨rfl, rfl⟩))
      go_loopw [1] (fun v wr => ∃ (n : Z4) (j : Int), v = .int .i64 j ∧ 0 ≤ j ∧ j ≤ 120 ∧ n.ok = true ∧ Hid (newL j.toNat n = newL k.toNat ⟨a, b, c, d⟩) ∧ Blk wr w.heap.size [.int .i64 n.a, .int .i64 n.b, .int .i64 n.c, .int .i64 n.d] 112 ∧ Blk wr (w.heap.size + 1) [.int .i64 0, .int .i64 0, .int .i64 0, .int .i64 0, .int .i64 0] 114 ∧ Below w.heap.size w wr) (fun v _ => (intOf v).toNat)
      case atStart => exact ⟨⟨a, b, c, d⟩, k, rfl, hk'.1, hk'.2, hx, rfl, by (repeat (first | with_reducible assumption | with_reducible exact Blk.new' _ _ (by first | omega | (simp; done) | (simp; omega)) | with_reducible apply Blk.set5 | with_reducible apply Blk.set4 | with_reducible refine Blk.other ?_ (by first | omega | (simp; done) | (simp; omega)) _ | with_reducible refine Blk.drew ?_ | with_reducible refine Blk.alloc ?_ _ | with_reducible refine Blk.below ?_ (by assumption) (by first | omega | (simp; done) | (simp; omega)))), by (repeat (first | with_reducible assumption | with_reducible exact Blk.new' _ _ (by first | omega | (simp; done) | (simp; omega)) | with_reducible apply Blk.set5 | with_reducible apply Blk.set4 | with_reducible refine Blk.other ?_ (by first | omega | (simp; done) | (simp; omega)) _ | with_reducible refine Blk.drew ?_ | with_reducible refine Blk.alloc ?_ _ | with_reducible refine Blk.below ?_ (by assumption) (by first | omega | (simp; done) | (simp; omega)))), by (repeat (first | with_reducible exact Below.refl _ _ | with_reducible assumption | with_reducible refine Below.setCell ?_ (by first | omega | (simp; done) | (simp; omega)) _ | with_reducible refine Below.alloc ?_ (by first | omega | (simp; done) | (simp; omega)) _ | with_reducible refine Below.drew ?_ | with_reducible refine Below.trans ?_ (Below.mono (by assumption) (by first | omega | (simp; done) | (simp; omega)))))⟩
      case round =>
        obtain ⟨⟨p, q, r, s⟩, j, rfl, h0, h1, hn, hinv, hB, hR, hb0⟩ := hrel
        dsimp only at hB
        obtain ⟨cB, fB, sB⟩ := hB.facts
        obtain ⟨cR, fR, sR⟩ := hR.facts
        by_cases hj : 0 < j
        · by_cases hd : (divZ ⟨p, q, r, s⟩).2 = true
          · go_wp2_with (first | (go_at_call 192; refine (sDivZ _ _ _ _ _).mono ?_; rintro e w1 ⟨rfl, hb⟩; obtain ⟨hc, hf, hz⟩ := bcell hb; (try simp at hz); (try have z0 : w.heap.size < w1.heap.size := by omega); (try have z1 : w.heap.size + 1 < w1.heap.size := by omega); (try have z2 : w.heap.size + 1 + 1 < w1.heap.size := by omega); (try have z3 : w.heap.size + 1 + 1 + 1 < w1.heap.size := by omega)))
            go_roundw
            case rel => exact ⟨(divZ ⟨p, q, r, s⟩).1, j - 1, rfl, by omega, by omega, divZ_ok hd, newL_more hj hinv.out hd, by (repeat (first | with_reducible assumption | with_reducible exact Blk.new' _ _ (by first | omega | (simp; done) | (simp; omega)) | with_reducible apply Blk.set5 | with_reducible apply Blk.set4 | with_reducible refine Blk.other ?_ (by first | omega | (simp; done) | (simp; omega)) _ | with_reducible refine Blk.drew ?_ | with_reducible refine Blk.alloc ?_ _ | with_reducible refine Blk.below ?_ (by assumption) (by first | omega | (simp; done) | (simp; omega)))), by (repeat (first | with_reducible assumption | with_reducible exact Blk.new' _ _ (by first | omega | (simp; done) | (simp; omega)) | with_reducible apply Blk.set5 | with_reducible apply Blk.set4 | with_reducible refine Blk.other ?_ (by first | omega | (simp; done) | (simp; omega)) _ | with_reducible refine Blk.drew ?_ | with_reducible refine Blk.alloc ?_ _ | with_reducible refine Blk.below ?_ (by assumption) (by first | omega | (simp; done) | (simp; omega)))), by (repeat (first | with_reducible exact Below.refl _ _ | with_reducible assumption | with_reducible refine Below.setCell ?_ (by first | omega | (simp; done) | (simp; omega)) _ | with_reducible refine Below.alloc ?_ (by first | omega | (simp; done) | (simp; omega)) _ | with_reducible refine Below.drew ?_ | with_reducible refine Below.trans ?_ (Below.mono (by assumption) (by first | omega | (simp; done) | (simp; omega)))))⟩
            case measure => simp [intOf]; omega
          · have hv := newL_end hj hinv.out hd
            by_cases h6 : 60 < j
            · have hfin := Lib.hid (newD_great hx hk hv h6)
              clear hv
              go_wp2_with (first | (go_at_call 192; refine (sDivZ _ _ _ _ _).mono ?_; rintro e w1 ⟨rfl, hb⟩; obtain ⟨hc, hf, hz⟩ := bcell hb; (try simp at hz); (try have z0 : w.heap.size < w1.heap.size := by omega); (try have z1 : w.heap.size + 1 < w1.heap.size := by omega); (try have z2 : w.heap.size + 1 + 1 < w1.heap.size := by omega); (try have z3 : w.heap.size + 1 + 1 + 1 < w1.heap.size := by omega)))
              exact bodyPost_ret (v := .tuple #[.agg #[.int .i64 0, .int .i64 0, .int .i64 0, .int .i64 0, .int .i64 0], .bool false]) (by simp [results, Try.results170, go_sem, *]) rfl ⟨by rw [hfin.out], by (repeat (first | with_reducible exact Below.refl _ _ | with_reducible assumption | with_reducible refine Below.setCell ?_ (by first | omega | (simp; done) | (simp; omega)) _ | with_reducible refine Below.alloc ?_ (by first | omega | (simp; done) | (simp; omega)) _ | with_reducible refine Below.drew ?_ | with_reducible refine Below.trans ?_ (Below.mono (by assumption) (by first | omega | (simp; done) | (simp; omega)))))⟩
            · have hfin := Lib.hid (newD_small hx hk hv h0 h6)
              clear hv
              go_wp2_with (first | (go_at_call 192; refine (sDivZ _ _ _ _ _).mono ?_; rintro e w1 ⟨rfl, hb⟩; obtain ⟨hc, hf, hz⟩ := bcell hb; (try simp at hz); (try have z0 : w.heap.size < w1.heap.size := by omega); (try have z1 : w.heap.size + 1 < w1.heap.size := by omega); (try have z2 : w.heap.size + 1 + 1 < w1.heap.size := by omega); (try have z3 : w.heap.size + 1 + 1 + 1 < w1.heap.size := by omega)))
              exact bodyPost_ret (v := .tuple #[.agg #[.int .i64 p, .int .i64 q, .int .i64 r, .int .i64 s, .int .i64 j], .bool true]) (by simp [results, Try.results170, go_sem, *]) rfl ⟨by rw [hfin.out], by (repeat (first | with_reducible exact Below.refl _ _ | with_reducible assumption | with_reducible refine Below.setCell ?_ (by first | omega | (simp; done) | (simp; omega)) _ | with_reducible refine Below.alloc ?_ (by first | omega | (simp; done) | (simp; omega)) _ | with_reducible refine Below.drew ?_ | with_reducible refine Below.trans ?_ (Below.mono (by assumption) (by first | omega | (simp; done) | (simp; omega)))))⟩
        · have hv := newL_stop hj hinv.out
          have hfin := Lib.hid (newD_small hx hk hv h0 (by omega))
          clear hv
          go_wp2_with (first | (go_at_call 192; refine (sDivZ _ _ _ _ _).mono ?_; rintro e w1 ⟨rfl, hb⟩; obtain ⟨hc, hf, hz⟩ := bcell hb; (try simp at hz); (try have z0 : w.heap.size < w1.heap.size := by omega); (try have z1 : w.heap.size + 1 < w1.heap.size := by omega); (try have z2 : w.heap.size + 1 + 1 < w1.heap.size := by omega); (try have z3 : w.heap.size + 1 + 1 + 1 < w1.heap.size := by omega)))
          exact bodyPost_ret (v := .tuple #[.agg #[.int .i64 p, .int .i64 q, .int .i64 r, .int .i64 s, .int .i64 j], .bool true]) (by simp [results, Try.results170, go_sem, *]) rfl ⟨by rw [hfin.out], by (repeat (first | with_reducible exact Below.refl _ _ | with_reducible assumption | with_reducible refine Below.setCell ?_ (by first | omega | (simp; done) | (simp; omega)) _ | with_reducible refine Below.alloc ?_ (by first | omega | (simp; done) | (simp; omega)) _ | with_reducible refine Below.drew ?_ | with_reducible refine Below.trans ?_ (Below.mono (by assumption) (by first | omega | (simp; done) | (simp; omega)))))⟩
    · go_enter Try.func170, Try.ntmps170
      go_wp2_with (first | (go_at_call 193; refine (sIsValidZ _ _ _ _ _).mono ?_; rintro e w1 ⟨rfl, hb⟩; obtain ⟨hc, hf, hz⟩ := bcell hb; (try simp at hz); (try have z0 : w.heap.size < w1.heap.size := by omega); (try have z1 : w.heap.size + 1 < w1.heap.size := by omega); (try have z2 : w.heap.size + 1 + 1 < w1.heap.size := by omega); (try have z3 : w.heap.size + 1 + 1 + 1 < w1.heap.size := by omega)) | (go_at_call 102; refine (sIn _ _ _ _).mono ?_; rintro e w1 ⟨rfl, rfl⟩))
      exact bodyPost_ret (v := .tuple #[.agg #[.int .i64 0, .int .i64 0, .int .i64 0, .int .i64 0, .int .i64 0], .bool false]) (by simp [results, Try.results170, go_sem, *]) rfl ⟨by simp [newD, hx, hk], by (repeat (first | with_reducible exact Below.refl _ _ | with_reducible assumption | with_reducible refine Below.setCell ?_ (by first | omega | (simp; done) | (simp; omega)) _ | with_reducible refine Below.alloc ?_ (by first | omega | (simp; done) | (simp; omega)) _ | with_reducible refine Below.drew ?_ | with_reducible refine Below.trans ?_ (Below.mono (by assumption) (by first | omega | (simp; done) | (simp; omega)))))⟩
  · go_enter Try.func170, Try.ntmps170
    go_wp2_with (first | (go_at_call 193; refine (sIsValidZ _ _ _ _ _).mono ?_; rintro e w1 ⟨rfl, hb⟩; obtain ⟨hc, hf, hz⟩ := bcell hb; (try simp at hz); (try have z0 : w.heap.size < w1.heap.size := by omega); (try have z1 : w.heap.size + 1 < w1.heap.size := by omega); (try have z2 : w.heap.size + 1 + 1 < w1.heap.size := by omega); (try have z3 : w.heap.size + 1 + 1 + 1 < w1.heap.size := by omega)) | (go_at_call 102; refine (sIn _ _ _ _).mono ?_; rintro e w1 ⟨rfl, rfl⟩))
    exact bodyPost_ret (v := .tuple #[.agg #[.int .i64 0, .int .i64 0, .int .i64 0, .int .i64 0, .int .i64 0], .bool false]) (by simp [results, Try.results170, go_sem, *]) rfl ⟨by simp [newD, hx], by (repeat (first | with_reducible exact Below.refl _ _ | with_reducible assumption | with_reducible refine Below.setCell ?_ (by first | omega | (simp; done) | (simp; omega)) _ | with_reducible refine Below.alloc ?_ (by first | omega | (simp; done) | (simp; omega)) _ | with_reducible refine Below.drew ?_ | with_reducible refine Below.trans ?_ (Below.mono (by assumption) (by first | omega | (simp; done) | (simp; omega)))))⟩
end Go.Proofs.Yteckhaafdojoeaa

/-! K: The walks of the arithmetic in D[omega], fourth part. -/
namespace Go.Proofs.Yteckhaafdojoeaa
open Go.RowKit

set_option maxHeartbeats 4000000 in
theorem iNegD (a b c d k : Int) (w : World) :
    Calls Try.prog 130 #[.agg #[.int .i64 a, .int .i64 b, .int .i64 c, .int .i64 d, .int .i64 k]] w fun e w' => e = .returned (Dv (negD ⟨⟨a, b, c, d⟩, k⟩)) ∧ Below w.heap.size w w' := by
  by_cases hx : DO.ok ⟨⟨a, b, c, d⟩, k⟩ = true
  · go_enter Try.func130, Try.ntmps130
    go_wp2_with fail
    refine (iIsValidD _ _ _ _ _ _).mono ?_
    rintro e w1 ⟨rfl, hb1⟩
    obtain ⟨hc1, hf1, hz1⟩ := bcell hb1
    try simp at hz1
    (try have z1_0 : w.heap.size < w1.heap.size := by omega)
    (try have z1_1 : w.heap.size + 1 < w1.heap.size := by omega)
    have B1 : Blk w1 w.heap.size [.int .i64 a, .int .i64 b, .int .i64 c, .int .i64 d, .int .i64 k] 114 := by (repeat (first | with_reducible assumption | with_reducible exact Blk.new' _ _ (by first | omega | (simp; done) | (simp; omega)) | with_reducible apply Blk.set5 | with_reducible apply Blk.set4 | with_reducible refine Blk.other ?_ (by first | omega | (simp; done) | (simp; omega)) _ | with_reducible refine Blk.drew ?_ | with_reducible refine Blk.alloc ?_ _ | with_reducible refine Blk.below ?_ (by assumption) (by first | omega | (simp; done) | (simp; omega))))
    have B2 : Blk w1 (w.heap.size + 1) [.int .i64 0, .int .i64 0, .int .i64 0, .int .i64 0, .int .i64 0] 114 := by (repeat (first | with_reducible assumption | with_reducible exact Blk.new' _ _ (by first | omega | (simp; done) | (simp; omega)) | with_reducible apply Blk.set5 | with_reducible apply Blk.set4 | with_reducible refine Blk.other ?_ (by first | omega | (simp; done) | (simp; omega)) _ | with_reducible refine Blk.drew ?_ | with_reducible refine Blk.alloc ?_ _ | with_reducible refine Blk.below ?_ (by assumption) (by first | omega | (simp; done) | (simp; omega))))
    obtain ⟨c1, f1, s1⟩ := B1.facts
    obtain ⟨c2, f2, s2⟩ := B2.facts
    clear hc1 hf1
    go_wp2
    go_region_with (first | (go_at_call 177; refine (iNegZ _ _ _ _ _).mono ?_; rintro e w2 ⟨rfl, hb⟩; obtain ⟨hc, hf, hz⟩ := bcell hb; simp only [World.size_drew, World.cell?_drew, World.frozen?_drew] at hc hf hz; (try have z0 : w.heap.size < w2.heap.size := by omega); (try have z1 : w.heap.size + 1 < w2.heap.size := by omega)))
    all_goals go_wp2
    all_goals exact bodyPost_ret (v := .agg #[.int .i64 (negZ ⟨a, b, c, d⟩).a, .int .i64 (negZ ⟨a, b, c, d⟩).b, .int .i64 (negZ ⟨a, b, c, d⟩).c, .int .i64 (negZ ⟨a, b, c, d⟩).d, .int .i64 k]) (by simp [results, Try.results130, go_sem, *]) rfl ⟨by simp [negD, hx], by (repeat (first | with_reducible exact Below.refl _ _ | with_reducible assumption | with_reducible refine Below.setCell ?_ (by first | omega | (simp; done) | (simp; omega)) _ | with_reducible refine Below.alloc ?_ (by first | omega | (simp; done) | (simp; omega)) _ | with_reducible refine Below.drew ?_ | with_reducible refine Below.trans ?_ (Below.mono (by assumption) (by first | omega | (simp; done) | (simp; omega)))))⟩
  · go_enter Try.func130, Try.ntmps130
    go_wp2_with (first | (go_at_call 156; refine (iIsValidD _ _ _ _ _ _).mono ?_; rintro e w1 ⟨rfl, hb⟩; obtain ⟨hc, hf, hz⟩ := bcell hb; (try simp at hz); (try have z0 : w.heap.size < w1.heap.size := by omega); (try have z1 : w.heap.size + 1 < w1.heap.size := by omega); (try have z2 : w.heap.size + 1 + 1 < w1.heap.size := by omega); (try have z3 : w.heap.size + 1 + 1 + 1 < w1.heap.size := by omega); (try have z4 : w.heap.size + 1 + 1 + 1 + 1 < w1.heap.size := by omega)))
    exact bodyPost_ret (v := .agg #[.int .i64 0, .int .i64 0, .int .i64 0, .int .i64 0, .int .i64 0]) (by simp [results, Try.results130, go_sem, *]) rfl ⟨by simp [negD, hx], by (repeat (first | with_reducible exact Below.refl _ _ | with_reducible assumption | with_reducible refine Below.setCell ?_ (by first | omega | (simp; done) | (simp; omega)) _ | with_reducible refine Below.alloc ?_ (by first | omega | (simp; done) | (simp; omega)) _ | with_reducible refine Below.drew ?_ | with_reducible refine Below.trans ?_ (Below.mono (by assumption) (by first | omega | (simp; done) | (simp; omega)))))⟩

set_option maxHeartbeats 4000000 in
theorem iConjD (a b c d k : Int) (w : World) :
    Calls Try.prog 107 #[.agg #[.int .i64 a, .int .i64 b, .int .i64 c, .int .i64 d, .int .i64 k]] w fun e w' => e = .returned (Dv (conjD ⟨⟨a, b, c, d⟩, k⟩)) ∧ Below w.heap.size w w' := by
  by_cases hx : DO.ok ⟨⟨a, b, c, d⟩, k⟩ = true
  · go_enter Try.func107, Try.ntmps107
    go_wp2_with fail
    refine (iIsValidD _ _ _ _ _ _).mono ?_
    rintro e w1 ⟨rfl, hb1⟩
    obtain ⟨hc1, hf1, hz1⟩ := bcell hb1
    try simp at hz1
    (try have z1_0 : w.heap.size < w1.heap.size := by omega)
    (try have z1_1 : w.heap.size + 1 < w1.heap.size := by omega)
    have B1 : Blk w1 w.heap.size [.int .i64 a, .int .i64 b, .int .i64 c, .int .i64 d, .int .i64 k] 114 := by (repeat (first | with_reducible assumption | with_reducible exact Blk.new' _ _ (by first | omega | (simp; done) | (simp; omega)) | with_reducible apply Blk.set5 | with_reducible apply Blk.set4 | with_reducible refine Blk.other ?_ (by first | omega | (simp; done) | (simp; omega)) _ | with_reducible refine Blk.drew ?_ | with_reducible refine Blk.alloc ?_ _ | with_reducible refine Blk.below ?_ (by assumption) (by first | omega | (simp; done) | (simp; omega))))
    have B2 : Blk w1 (w.heap.size + 1) [.int .i64 0, .int .i64 0, .int .i64 0, .int .i64 0, .int .i64 0] 114 := by (repeat (first | with_reducible assumption | with_reducible exact Blk.new' _ _ (by first | omega | (simp; done) | (simp; omega)) | with_reducible apply Blk.set5 | with_reducible apply Blk.set4 | with_reducible refine Blk.other ?_ (by first | omega | (simp; done) | (simp; omega)) _ | with_reducible refine Blk.drew ?_ | with_reducible refine Blk.alloc ?_ _ | with_reducible refine Blk.below ?_ (by assumption) (by first | omega | (simp; done) | (simp; omega))))
    obtain ⟨c1, f1, s1⟩ := B1.facts
    obtain ⟨c2, f2, s2⟩ := B2.facts
    clear hc1 hf1
    go_wp2
    go_region_with (first | (go_at_call 157; refine (iConjZ _ _ _ _ _).mono ?_; rintro e w2 ⟨rfl, hb⟩; obtain ⟨hc, hf, hz⟩ := bcell hb; simp only [World.size_drew, World.cell?_drew, World.frozen?_drew] at hc hf hz; (try have z0 : w.heap.size < w2.heap.size := by omega); (try have z1 : w.heap.size + 1 < w2.heap.size := by omega)))
    all_goals go_wp2
    all_goals exact bodyPost_ret (v := .agg #[.int .i64 (conjZ ⟨a, b, c, d⟩).a, .int .i64 (conjZ ⟨a, b, c, d⟩).b, .int .i64 (conjZ ⟨a, b, c, d⟩).c, .int .i64 (conjZ ⟨a, b, c, d⟩).d, .int .i64 k]) (by simp [results, Try.results107, go_sem, *]) rfl ⟨by simp [conjD, hx], by (repeat (first | with_reducible exact Below.refl _ _ | with_reducible assumption | with_reducible refine Below.setCell ?_ (by first | omega | (simp; done) | (simp; omega)) _ | with_reducible refine Below.alloc ?_ (by first | omega | (simp; done) | (simp; omega)) _ | with_reducible refine Below.drew ?_ | with_reducible refine Below.trans ?_ (Below.mono (by assumption) (by first | omega | (simp; done) | (simp; omega)))))⟩
  · go_enter Try.func107, Try.ntmps107
    go_wp2_with (first | (go_at_call 156; refine (iIsValidD _ _ _ _ _ _).mono ?_; rintro e w1 ⟨rfl, hb⟩; obtain ⟨hc, hf, hz⟩ := bcell hb; (try simp at hz); (try have z0 : w.heap.size < w1.heap.size := by omega); (try have z1 : w.heap.size + 1 < w1.heap.size := by omega); (try have z2 : w.heap.size + 1 + 1 < w1.heap.size := by omega); (try have z3 : w.heap.size + 1 + 1 + 1 < w1.heap.size := by omega); (try have z4 : w.heap.size + 1 + 1 + 1 + 1 < w1.heap.size := by omega)))
    exact bodyPost_ret (v := .agg #[.int .i64 0, .int .i64 0, .int .i64 0, .int .i64 0, .int .i64 0]) (by simp [results, Try.results107, go_sem, *]) rfl ⟨by simp [conjD, hx], by (repeat (first | with_reducible exact Below.refl _ _ | with_reducible assumption | with_reducible refine Below.setCell ?_ (by first | omega | (simp; done) | (simp; omega)) _ | with_reducible refine Below.alloc ?_ (by first | omega | (simp; done) | (simp; omega)) _ | with_reducible refine Below.drew ?_ | with_reducible refine Below.trans ?_ (Below.mono (by assumption) (by first | omega | (simp; done) | (simp; omega)))))⟩

set_option maxHeartbeats 4000000 in
theorem iMulD (a b c d k a' b' c' d' k' : Int) (w : World) :
    Calls Try.prog 126 #[.agg #[.int .i64 a, .int .i64 b, .int .i64 c, .int .i64 d, .int .i64 k], .agg #[.int .i64 a', .int .i64 b', .int .i64 c', .int .i64 d', .int .i64 k']] w fun e w' => e = .returned (.tuple #[Dv (mulD ⟨⟨a, b, c, d⟩, k⟩ ⟨⟨a', b', c', d'⟩, k'⟩).1, .bool (mulD ⟨⟨a, b, c, d⟩, k⟩ ⟨⟨a', b', c', d'⟩, k'⟩).2]) ∧ Below w.heap.size w w' := by
  by_cases hx : DO.ok ⟨⟨a, b, c, d⟩, k⟩ = true
  · by_cases hy : DO.ok ⟨⟨a', b', c', d'⟩, k'⟩ = true
    · by_cases hm : (mulZ ⟨a, b, c, d⟩ ⟨a', b', c', d'⟩).2 = true
      · have xe := ((DO.ok_iff _).1 hx).2.1
        have ye := ((DO.ok_iff _).1 hy).2.1
        dsimp only at xe ye
        obtain ⟨xe1, xe2⟩ := xe
        obtain ⟨ye1, ye2⟩ := ye
        go_enter Try.func126, Try.ntmps126
        go_wp2_with fail
        refine (iIsValidD _ _ _ _ _ _).mono ?_
        rintro e w1 ⟨rfl, hb1⟩
        obtain ⟨hc1, hf1, hz1⟩ := bcell hb1
        try simp at hz1
        have z1_0 : w.heap.size < w1.heap.size := by omega
        have z1_1 : w.heap.size + 1 < w1.heap.size := by omega
        have z1_2 : w.heap.size + 1 + 1 < w1.heap.size := by omega
        go_wp2_with fail
        refine (iIsValidD _ _ _ _ _ _).mono ?_
        rintro e w2 ⟨rfl, hb2⟩
        obtain ⟨hc2, hf2, hz2⟩ := bcell hb2
        try simp at hz2
        have z2_0 : w.heap.size < w2.heap.size := by omega
        have z2_1 : w.heap.size + 1 < w2.heap.size := by omega
        have z2_2 : w.heap.size + 1 + 1 < w2.heap.size := by omega
        go_wp2_with fail
        refine (iMulZ _ _ _ _ _ _ _ _ _).mono ?_
        rintro e w3 ⟨rfl, hb3⟩
        obtain ⟨hc3, hf3, hz3⟩ := bcell hb3
        try simp at hz3
        have z3_0 : w.heap.size < w3.heap.size := by omega
        have z3_1 : w.heap.size + 1 < w3.heap.size := by omega
        have z3_2 : w.heap.size + 1 + 1 < w3.heap.size := by omega
        go_wp2_with fail
        refine (iNew _ _ _ _ _ _).mono ?_
        rintro e w4 ⟨rfl, hb4⟩
        obtain ⟨hc4, hf4, hz4⟩ := bcell hb4
        try simp at hz4
        have z4_0 : w.heap.size < w4.heap.size := by omega
        have z4_1 : w.heap.size + 1 < w4.heap.size := by omega
        have z4_2 : w.heap.size + 1 + 1 < w4.heap.size := by omega
        have z4_3 : w3.heap.size < w4.heap.size := by omega
        go_wp2
        exact bodyPost_ret (v := .tuple #[Dv (newD (mulZ ⟨a, b, c, d⟩ ⟨a', b', c', d'⟩).1 (k + k')).1, .bool (newD (mulZ ⟨a, b, c, d⟩ ⟨a', b', c', d'⟩).1 (k + k')).2]) (by simp [results, Try.results126, go_sem, *]) rfl ⟨by simp [mulD, hx, hy, hm], by (repeat (first | with_reducible exact Below.refl _ _ | with_reducible assumption | with_reducible refine Below.setCell ?_ (by first | omega | (simp; done) | (simp; omega)) _ | with_reducible refine Below.alloc ?_ (by first | omega | (simp; done) | (simp; omega)) _ | with_reducible refine Below.drew ?_ | with_reducible refine Below.trans ?_ (Below.mono (by assumption) (by first | omega | (simp; done) | (simp; omega)))))⟩
      · go_enter Try.func126, Try.ntmps126
        go_wp2_with fail
        refine (iIsValidD _ _ _ _ _ _).mono ?_
        rintro e w1 ⟨rfl, hb1⟩
        obtain ⟨hc1, hf1, hz1⟩ := bcell hb1
        try simp at hz1
        have z1_0 : w.heap.size < w1.heap.size := by omega
        have z1_1 : w.heap.size + 1 < w1.heap.size := by omega
        have z1_2 : w.heap.size + 1 + 1 < w1.heap.size := by omega
        go_wp2_with fail
        refine (iIsValidD _ _ _ _ _ _).mono ?_
        rintro e w2 ⟨rfl, hb2⟩
        obtain ⟨hc2, hf2, hz2⟩ := bcell hb2
        try simp at hz2
        have z2_0 : w.heap.size < w2.heap.size := by omega
        have z2_1 : w.heap.size + 1 < w2.heap.size := by omega
        have z2_2 : w.heap.size + 1 + 1 < w2.heap.size := by omega
        go_wp2_with fail
        refine (iMulZ _ _ _ _ _ _ _ _ _).mono ?_
        rintro e w3 ⟨rfl, hb3⟩
        obtain ⟨hc3, hf3, hz3⟩ := bcell hb3
        try simp at hz3
        have z3_0 : w.heap.size < w3.heap.size := by omega
        have z3_1 : w.heap.size + 1 < w3.heap.size := by omega
        have z3_2 : w.heap.size + 1 + 1 < w3.heap.size := by omega
        go_wp2
        exact bodyPost_ret (v := .tuple #[.agg #[.int .i64 0, .int .i64 0, .int .i64 0, .int .i64 0, .int .i64 0], .bool false]) (by simp [results, Try.results126, go_sem, *]) rfl ⟨by simp [mulD, hx, hy, hm], by (repeat (first | with_reducible exact Below.refl _ _ | with_reducible assumption | with_reducible refine Below.setCell ?_ (by first | omega | (simp; done) | (simp; omega)) _ | with_reducible refine Below.alloc ?_ (by first | omega | (simp; done) | (simp; omega)) _ | with_reducible refine Below.drew ?_ | with_reducible refine Below.trans ?_ (Below.mono (by assumption) (by first | omega | (simp; done) | (simp; omega)))))⟩
    · go_enter Try.func126, Try.ntmps126
      go_wp2_with fail
      refine (iIsValidD _ _ _ _ _ _).mono ?_
      rintro e w1 ⟨rfl, hb1⟩
      obtain ⟨hc1, hf1, hz1⟩ := bcell hb1
      try simp at hz1
      have z1_0 : w.heap.size < w1.heap.size := by omega
      have z1_1 : w.heap.size + 1 < w1.heap.size := by omega
      have z1_2 : w.heap.size + 1 + 1 < w1.heap.size := by omega
      go_wp2_with fail
      refine (iIsValidD _ _ _ _ _ _).mono ?_
      rintro e w2 ⟨rfl, hb2⟩
      obtain ⟨hc2, hf2, hz2⟩ := bcell hb2
      try simp at hz2
      have z2_0 : w.heap.size < w2.heap.size := by omega
      have z2_1 : w.heap.size + 1 < w2.heap.size := by omega
      have z2_2 : w.heap.size + 1 + 1 < w2.heap.size := by omega
      go_wp2
      exact bodyPost_ret (v := .tuple #[.agg #[.int .i64 0, .int .i64 0, .int .i64 0, .int .i64 0, .int .i64 0], .bool false]) (by simp [results, Try.results126, go_sem, *]) rfl ⟨by simp [mulD, hx, hy], by (repeat (first | with_reducible exact Below.refl _ _ | with_reducible assumption | with_reducible refine Below.setCell ?_ (by first | omega | (simp; done) | (simp; omega)) _ | with_reducible refine Below.alloc ?_ (by first | omega | (simp; done) | (simp; omega)) _ | with_reducible refine Below.drew ?_ | with_reducible refine Below.trans ?_ (Below.mono (by assumption) (by first | omega | (simp; done) | (simp; omega)))))⟩
  · go_enter Try.func126, Try.ntmps126
    go_wp2_with fail
    refine (iIsValidD _ _ _ _ _ _).mono ?_
    rintro e w1 ⟨rfl, hb1⟩
    obtain ⟨hc1, hf1, hz1⟩ := bcell hb1
    try simp at hz1
    have z1_0 : w.heap.size < w1.heap.size := by omega
    have z1_1 : w.heap.size + 1 < w1.heap.size := by omega
    have z1_2 : w.heap.size + 1 + 1 < w1.heap.size := by omega
    go_wp2
    exact bodyPost_ret (v := .tuple #[.agg #[.int .i64 0, .int .i64 0, .int .i64 0, .int .i64 0, .int .i64 0], .bool false]) (by simp [results, Try.results126, go_sem, *]) rfl ⟨by simp [mulD, hx], by (repeat (first | with_reducible exact Below.refl _ _ | with_reducible assumption | with_reducible refine Below.setCell ?_ (by first | omega | (simp; done) | (simp; omega)) _ | with_reducible refine Below.alloc ?_ (by first | omega | (simp; done) | (simp; omega)) _ | with_reducible refine Below.drew ?_ | with_reducible refine Below.trans ?_ (Below.mono (by assumption) (by first | omega | (simp; done) | (simp; omega)))))⟩
end Go.Proofs.Yteckhaafdojoeaa

/-! L: The walks of the arithmetic in D[omega], fourth part. -/
namespace Go.Proofs.Yteckhaafdojoeaa
open Go.RowKit

set_option maxHeartbeats 4000000 in
theorem sNegD (a b c d k : Int) (w : World) :
    Calls Try.prog 168 #[.agg #[.int .i64 a, .int .i64 b, .int .i64 c, .int .i64 d, .int .i64 k]] w fun e w' => e = .returned (Dv (negD ⟨⟨a, b, c, d⟩, k⟩)) ∧ Below w.heap.size w w' := by
  by_cases hx : DO.ok ⟨⟨a, b, c, d⟩, k⟩ = true
  · go_enter Try.func168, Try.ntmps168
    go_wp2_with fail
    refine (sIsValidD _ _ _ _ _ _).mono ?_
    rintro e w1 ⟨rfl, hb1⟩
    obtain ⟨hc1, hf1, hz1⟩ := bcell hb1
    try simp at hz1
    (try have z1_0 : w.heap.size < w1.heap.size := by omega)
    (try have z1_1 : w.heap.size + 1 < w1.heap.size := by omega)
    have B1 : Blk w1 w.heap.size [.int .i64 a, .int .i64 b, .int .i64 c, .int .i64 d, .int .i64 k] 114 := by (repeat (first | with_reducible assumption | with_reducible exact Blk.new' _ _ (by first | omega | (simp; done) | (simp; omega)) | with_reducible apply Blk.set5 | with_reducible apply Blk.set4 | with_reducible refine Blk.other ?_ (by first | omega | (simp; done) | (simp; omega)) _ | with_reducible refine Blk.drew ?_ | with_reducible refine Blk.alloc ?_ _ | with_reducible refine Blk.below ?_ (by assumption) (by first | omega | (simp; done) | (simp; omega))))
    have B2 : Blk w1 (w.heap.size + 1) [.int .i64 0, .int .i64 0, .int .i64 0, .int .i64 0, .int .i64 0] 114 := by (repeat (first | with_reducible assumption | with_reducible exact Blk.new' _ _ (by first | omega | (simp; done) | (simp; omega)) | with_reducible apply Blk.set5 | with_reducible apply Blk.set4 | with_reducible refine Blk.other ?_ (by first | omega | (simp; done) | (simp; omega)) _ | with_reducible refine Blk.drew ?_ | with_reducible refine Blk.alloc ?_ _ | with_reducible refine Blk.below ?_ (by assumption) (by first | omega | (simp; done) | (simp; omega))))
    obtain ⟨c1, f1, s1⟩ := B1.facts
    obtain ⟨c2, f2, s2⟩ := B2.facts
    clear hc1 hf1
    go_wp2
    go_region_with (first | (go_at_call 194; refine (sNegZ _ _ _ _ _).mono ?_; rintro e w2 ⟨rfl, hb⟩; obtain ⟨hc, hf, hz⟩ := bcell hb; simp only [World.size_drew, World.cell?_drew, World.frozen?_drew] at hc hf hz; (try have z0 : w.heap.size < w2.heap.size := by omega); (try have z1 : w.heap.size + 1 < w2.heap.size := by omega)))
    all_goals go_wp2
    all_goals exact bodyPost_ret (v := .agg #[.int .i64 (negZ ⟨a, b, c, d⟩).a, .int .i64 (negZ ⟨a, b, c, d⟩).b, .int .i64 (negZ ⟨a, b, c, d⟩).c, .int .i64 (negZ ⟨a, b, c, d⟩).d, .int .i64 k]) (by simp [results, Try.results168, go_sem, *]) rfl ⟨by simp [negD, hx], by (repeat (first | with_reducible exact Below.refl _ _ | with_reducible assumption | with_reducible refine Below.setCell ?_ (by first | omega | (simp; done) | (simp; omega)) _ | with_reducible refine Below.alloc ?_ (by first | omega | (simp; done) | (simp; omega)) _ | with_reducible refine Below.drew ?_ | with_reducible refine Below.trans ?_ (Below.mono (by assumption) (by first | omega | (simp; done) | (simp; omega)))))⟩
  · go_enter Try.func168, Try.ntmps168
    go_wp2_with (first | (go_at_call 164; refine (sIsValidD _ _ _ _ _ _).mono ?_; rintro e w1 ⟨rfl, hb⟩; obtain ⟨hc, hf, hz⟩ := bcell hb; (try simp at hz); (try have z0 : w.heap.size < w1.heap.size := by omega); (try have z1 : w.heap.size + 1 < w1.heap.size := by omega); (try have z2 : w.heap.size + 1 + 1 < w1.heap.size := by omega); (try have z3 : w.heap.size + 1 + 1 + 1 < w1.heap.size := by omega); (try have z4 : w.heap.size + 1 + 1 + 1 + 1 < w1.heap.size := by omega)))
    exact bodyPost_ret (v := .agg #[.int .i64 0, .int .i64 0, .int .i64 0, .int .i64 0, .int .i64 0]) (by simp [results, Try.results168, go_sem, *]) rfl ⟨by simp [negD, hx], by (repeat (first | with_reducible exact Below.refl _ _ | with_reducible assumption | with_reducible refine Below.setCell ?_ (by first | omega | (simp; done) | (simp; omega)) _ | with_reducible refine Below.alloc ?_ (by first | omega | (simp; done) | (simp; omega)) _ | with_reducible refine Below.drew ?_ | with_reducible refine Below.trans ?_ (Below.mono (by assumption) (by first | omega | (simp; done) | (simp; omega)))))⟩

set_option maxHeartbeats 4000000 in
theorem sConjD (a b c d k : Int) (w : World) :
    Calls Try.prog 146 #[.agg #[.int .i64 a, .int .i64 b, .int .i64 c, .int .i64 d, .int .i64 k]] w fun e w' => e = .returned (Dv (conjD ⟨⟨a, b, c, d⟩, k⟩)) ∧ Below w.heap.size w w' := by
  by_cases hx : DO.ok ⟨⟨a, b, c, d⟩, k⟩ = true
  · go_enter Try.func146, Try.ntmps146
    go_wp2_with fail
    refine (sIsValidD _ _ _ _ _ _).mono ?_
    rintro e w1 ⟨rfl, hb1⟩
    obtain ⟨hc1, hf1, hz1⟩ := bcell hb1
    try simp at hz1
    (try have z1_0 : w.heap.size < w1.heap.size := by omega)
    (try have z1_1 : w.heap.size + 1 < w1.heap.size := by omega)
    have B1 : Blk w1 w.heap.size [.int .i64 a, .int .i64 b, .int .i64 c, .int .i64 d, .int .i64 k] 114 := by (repeat (first | with_reducible assumption | with_reducible exact Blk.new' _ _ (by first | omega | (simp; done) | (simp; omega)) | with_reducible apply Blk.set5 | with_reducible apply Blk.set4 | with_reducible refine Blk.other ?_ (by first | omega | (simp; done) | (simp; omega)) _ | with_reducible refine Blk.drew ?_ | with_reducible refine Blk.alloc ?_ _ | with_reducible refine Blk.below ?_ (by assumption) (by first | omega | (simp; done) | (simp; omega))))
    have B2 : Blk w1 (w.heap.size + 1) [.int .i64 0, .int .i64 0, .int .i64 0, .int .i64 0, .int .i64 0] 114 := by (repeat (first | with_reducible assumption | with_reducible exact Blk.new' _ _ (by first | omega | (simp; done) | (simp; omega)) | with_reducible apply Blk.set5 | with_reducible apply Blk.set4 | with_reducible refine Blk.other ?_ (by first | omega | (simp; done) | (simp; omega)) _ | with_reducible refine Blk.drew ?_ | with_reducible refine Blk.alloc ?_ _ | with_reducible refine Blk.below ?_ (by assumption) (by first | omega | (simp; done) | (simp; omega))))
    obtain ⟨c1, f1, s1⟩ := B1.facts
    obtain ⟨c2, f2, s2⟩ := B2.facts
    clear hc1 hf1
    go_wp2
    go_region_with (first | (go_at_call 182; refine (sConjZ _ _ _ _ _).mono ?_; rintro e w2 ⟨rfl, hb⟩; obtain ⟨hc, hf, hz⟩ := bcell hb; simp only [World.size_drew, World.cell?_drew, World.frozen?_drew] at hc hf hz; (try have z0 : w.heap.size < w2.heap.size := by omega); (try have z1 : w.heap.size + 1 < w2.heap.size := by omega)))
    all_goals go_wp2
    all_goals exact bodyPost_ret (v := .agg #[.int .i64 (conjZ ⟨a, b, c, d⟩).a, .int .i64 (conjZ ⟨a, b, c, d⟩).b, .int .i64 (conjZ ⟨a, b, c, d⟩).c, .int .i64 (conjZ ⟨a, b, c, d⟩).d, .int .i64 k]) (by simp [results, Try.results146, go_sem, *]) rfl ⟨by simp [conjD, hx], by (repeat (first | with_reducible exact Below.refl _ _ | with_reducible assumption | with_reducible refine Below.setCell ?_ (by first | omega | (simp; done) | (simp; omega)) _ | with_reducible refine Below.alloc ?_ (by first | omega | (simp; done) | (simp; omega)) _ | with_reducible refine Below.drew ?_ | with_reducible refine Below.trans ?_ (Below.mono (by assumption) (by first | omega | (simp; done) | (simp; omega)))))⟩
  · go_enter Try.func146, Try.ntmps146
    go_wp2_with (first | (go_at_call 164; refine (sIsValidD _ _ _ _ _ _).mono ?_; rintro e w1 ⟨rfl, hb⟩; obtain ⟨hc, hf, hz⟩ := bcell hb; (try simp at hz); (try have z0 : w.heap.size < w1.heap.size := by omega); (try have z1 : w.heap.size + 1 < w1.heap.size := by omega); (try have z2 : w.heap.size + 1 + 1 < w1.heap.size := by omega); (try have z3 : w.heap.size + 1 + 1 + 1 < w1.heap.size := by omega); (try have z4 : w.heap.size + 1 + 1 + 1 + 1 < w1.heap.size := by omega)))
    exact bodyPost_ret (v := .agg #[.int .i64 0, .int .i64 0, .int .i64 0, .int .i64 0, .int .i64 0]) (by simp [results, Try.results146, go_sem, *]) rfl ⟨by simp [conjD, hx], by (repeat (first | with_reducible exact Below.refl _ _ | with_reducible assumption | with_reducible refine Below.setCell ?_ (by first | omega | (simp; done) | (simp; omega)) _ | with_reducible refine Below.alloc ?_ (by first | omega | (simp; done) | (simp; omega)) _ | with_reducible refine Below.drew ?_ | with_reducible refine Below.trans ?_ (Below.mono (by assumption) (by first | omega | (simp; done) | (simp; omega)))))⟩

set_option maxHeartbeats 4000000 in
theorem sMulD (a b c d k a' b' c' d' k' : Int) (w : World) :
    Calls Try.prog 121 #[.agg #[.int .i64 a, .int .i64 b, .int .i64 c, .int .i64 d, .int .i64 k], .agg #[.int .i64 a', .int .i64 b', .int .i64 c', .int .i64 d', .int .i64 k']] w fun e w' => e = .returned (.tuple #[Dv (mulD ⟨⟨a, b, c, d⟩, k⟩ ⟨⟨a', b', c', d'⟩, k'⟩).1, .bool (mulD ⟨⟨a, b, c, d⟩, k⟩ ⟨⟨a', b', c', d'⟩, k'⟩).2]) ∧ Below w.heap.size w w' := by
  by_cases hx : DO.ok ⟨⟨a, b, c, d⟩, k⟩ = true
  · by_cases hy : DO.ok ⟨⟨a', b', c', d'⟩, k'⟩ = true
    · by_cases hm : (mulZ ⟨a, b, c, d⟩ ⟨a', b', c', d'⟩).2 = true
      · have xe := ((DO.ok_iff _).1 hx).2.1
        have ye := ((DO.ok_iff _).1 hy).2.1
        dsimp only at xe ye
        obtain ⟨xe1, xe2⟩ := xe
        obtain ⟨ye1, ye2⟩ := ye
        go_enter Try.func121, Try.ntmps121
        go_wp2_with fail
        refine (sMulZ _ _ _ _ _ _ _ _ _).mono ?_
        rintro e w1 ⟨rfl, hb1⟩
        obtain ⟨hc1, hf1, hz1⟩ := bcell hb1
        try simp at hz1
        have z1_0 : w.heap.size < w1.heap.size := by omega
        have z1_1 : w.heap.size + 1 < w1.heap.size := by omega
        have z1_2 : w.heap.size + 1 + 1 < w1.heap.size := by omega
        go_wp2_with fail
        refine (sIsValidD _ _ _ _ _ _).mono ?_
        rintro e w2 ⟨rfl, hb2⟩
        obtain ⟨hc2, hf2, hz2⟩ := bcell hb2
        try simp at hz2
        have z2_0 : w.heap.size < w2.heap.size := by omega
        have z2_1 : w.heap.size + 1 < w2.heap.size := by omega
        have z2_2 : w.heap.size + 1 + 1 < w2.heap.size := by omega
        have z2_3 : w1.heap.size < w2.heap.size := by omega
        go_wp2_with fail
        refine (sIsValidD _ _ _ _ _ _).mono ?_
        rintro e w3 ⟨rfl, hb3⟩
        obtain ⟨hc3, hf3, hz3⟩ := bcell hb3
        try simp at hz3
        have z3_0 : w.heap.size < w3.heap.size := by omega
        have z3_1 : w.heap.size + 1 < w3.heap.size := by omega
        have z3_2 : w.heap.size + 1 + 1 < w3.heap.size := by omega
        have z3_3 : w1.heap.size < w3.heap.size := by omega
        go_wp2_with fail
        refine (sNew _ _ _ _ _ _).mono ?_
        rintro e w4 ⟨rfl, hb4⟩
        obtain ⟨hc4, hf4, hz4⟩ := bcell hb4
        try simp at hz4
        have z4_0 : w.heap.size < w4.heap.size := by omega
        have z4_1 : w.heap.size + 1 < w4.heap.size := by omega
        have z4_2 : w.heap.size + 1 + 1 < w4.heap.size := by omega
        have z4_3 : w1.heap.size < w4.heap.size := by omega
        go_wp2
        exact bodyPost_ret (v := .tuple #[Dv (newD (mulZ ⟨a, b, c, d⟩ ⟨a', b', c', d'⟩).1 (k + k')).1, .bool (newD (mulZ ⟨a, b, c, d⟩ ⟨a', b', c', d'⟩).1 (k + k')).2]) (by simp [results, Try.results121, go_sem, *]) rfl ⟨by simp [mulD, hx, hy, hm], by (repeat (first | with_reducible exact Below.refl _ _ | with_reducible assumption | with_reducible refine Below.setCell ?_ (by first | omega | (simp; done) | (simp; omega)) _ | with_reducible refine Below.alloc ?_ (by first | omega | (simp; done) | (simp; omega)) _ | with_reducible refine Below.drew ?_ | with_reducible refine Below.trans ?_ (Below.mono (by assumption) (by first | omega | (simp; done) | (simp; omega)))))⟩
      · go_enter Try.func121, Try.ntmps121
        go_wp2_with fail
        refine (sMulZ _ _ _ _ _ _ _ _ _).mono ?_
        rintro e w1 ⟨rfl, hb1⟩
        obtain ⟨hc1, hf1, hz1⟩ := bcell hb1
        try simp at hz1
        have z1_0 : w.heap.size < w1.heap.size := by omega
        have z1_1 : w.heap.size + 1 < w1.heap.size := by omega
        have z1_2 : w.heap.size + 1 + 1 < w1.heap.size := by omega
        go_wp2_with fail
        refine (sIsValidD _ _ _ _ _ _).mono ?_
        rintro e w2 ⟨rfl, hb2⟩
        obtain ⟨hc2, hf2, hz2⟩ := bcell hb2
        try simp at hz2
        have z2_0 : w.heap.size < w2.heap.size := by omega
        have z2_1 : w.heap.size + 1 < w2.heap.size := by omega
        have z2_2 : w.heap.size + 1 + 1 < w2.heap.size := by omega
        have z2_3 : w1.heap.size < w2.heap.size := by omega
        go_wp2_with fail
        refine (sIsValidD _ _ _ _ _ _).mono ?_
        rintro e w3 ⟨rfl, hb3⟩
        obtain ⟨hc3, hf3, hz3⟩ := bcell hb3
        try simp at hz3
        have z3_0 : w.heap.size < w3.heap.size := by omega
        have z3_1 : w.heap.size + 1 < w3.heap.size := by omega
        have z3_2 : w.heap.size + 1 + 1 < w3.heap.size := by omega
        have z3_3 : w1.heap.size < w3.heap.size := by omega
        go_wp2
        exact bodyPost_ret (v := .tuple #[.agg #[.int .i64 0, .int .i64 0, .int .i64 0, .int .i64 0, .int .i64 0], .bool false]) (by simp [results, Try.results121, go_sem, *]) rfl ⟨by simp [mulD, hx, hy, hm], by (repeat (first | with_reducible exact Below.refl _ _ | with_reducible assumption | with_reducible refine Below.setCell ?_ (by first | omega | (simp; done) | (simp; omega)) _ | with_reducible refine Below.alloc ?_ (by first | omega | (simp; done) | (simp; omega)) _ | with_reducible refine Below.drew ?_ | with_reducible refine Below.trans ?_ (Below.mono (by assumption) (by first | omega | (simp; done) | (simp; omega)))))⟩
    · go_enter Try.func121, Try.ntmps121
      go_wp2_with fail
      refine (sMulZ _ _ _ _ _ _ _ _ _).mono ?_
      rintro e w1 ⟨rfl, hb1⟩
      obtain ⟨hc1, hf1, hz1⟩ := bcell hb1
      try simp at hz1
      have z1_0 : w.heap.size < w1.heap.size := by omega
      have z1_1 : w.heap.size + 1 < w1.heap.size := by omega
      have z1_2 : w.heap.size + 1 + 1 < w1.heap.size := by omega
      go_wp2_with fail
      refine (sIsValidD _ _ _ _ _ _).mono ?_
      rintro e w2 ⟨rfl, hb2⟩
      obtain ⟨hc2, hf2, hz2⟩ := bcell hb2
      try simp at hz2
      have z2_0 : w.heap.size < w2.heap.size := by omega
      have z2_1 : w.heap.size + 1 < w2.heap.size := by omega
      have z2_2 : w.heap.size + 1 + 1 < w2.heap.size := by omega
      have z2_3 : w1.heap.size < w2.heap.size := by omega
      go_wp2_with fail
      refine (sIsValidD _ _ _ _ _ _).mono ?_
      rintro e w3 ⟨rfl, hb3⟩
      obtain ⟨hc3, hf3, hz3⟩ := bcell hb3
      try simp at hz3
      have z3_0 : w.heap.size < w3.heap.size := by omega
      have z3_1 : w.heap.size + 1 < w3.heap.size := by omega
      have z3_2 : w.heap.size + 1 + 1 < w3.heap.size := by omega
      have z3_3 : w1.heap.size < w3.heap.size := by omega
      go_wp2
      exact bodyPost_ret (v := .tuple #[.agg #[.int .i64 0, .int .i64 0, .int .i64 0, .int .i64 0, .int .i64 0], .bool false]) (by simp [results, Try.results121, go_sem, *]) rfl ⟨by simp [mulD, hx, hy], by (repeat (first | with_reducible exact Below.refl _ _ | with_reducible assumption | with_reducible refine Below.setCell ?_ (by first | omega | (simp; done) | (simp; omega)) _ | with_reducible refine Below.alloc ?_ (by first | omega | (simp; done) | (simp; omega)) _ | with_reducible refine Below.drew ?_ | with_reducible refine Below.trans ?_ (Below.mono (by assumption) (by first | omega | (simp; done) | (simp; omega)))))⟩
  · go_enter Try.func121, Try.ntmps121
    go_wp2_with fail
    refine (sMulZ _ _ _ _ _ _ _ _ _).mono ?_
    rintro e w1 ⟨rfl, hb1⟩
    obtain ⟨hc1, hf1, hz1⟩ := bcell hb1
    try simp at hz1
    have z1_0 : w.heap.size < w1.heap.size := by omega
    have z1_1 : w.heap.size + 1 < w1.heap.size := by omega
    have z1_2 : w.heap.size + 1 + 1 < w1.heap.size := by omega
    go_wp2_with fail
    refine (sIsValidD _ _ _ _ _ _).mono ?_
    rintro e w2 ⟨rfl, hb2⟩
    obtain ⟨hc2, hf2, hz2⟩ := bcell hb2
    try simp at hz2
    have z2_0 : w.heap.size < w2.heap.size := by omega
    have z2_1 : w.heap.size + 1 < w2.heap.size := by omega
    have z2_2 : w.heap.size + 1 + 1 < w2.heap.size := by omega
    have z2_3 : w1.heap.size < w2.heap.size := by omega
    go_wp2
    exact bodyPost_ret (v := .tuple #[.agg #[.int .i64 0, .int .i64 0, .int .i64 0, .int .i64 0, .int .i64 0], .bool false]) (by simp [results, Try.results121, go_sem, *]) rfl ⟨by simp [mulD, hx], by (repeat (first | with_reducible exact Below.refl _ _ | with_reducible assumption | with_reducible refine Below.setCell ?_ (by first | omega | (simp; done) | (simp; omega)) _ | with_reducible refine Below.alloc ?_ (by first | omega | (simp; done) | (simp; omega)) _ | with_reducible refine Below.drew ?_ | with_reducible refine Below.trans ?_ (Below.mono (by assumption) (by first | omega | (simp; done) | (simp; omega)))))⟩
end Go.Proofs.Yteckhaafdojoeaa

/-! N: The sum in D[omega]. -/
namespace Go.Proofs.Yteckhaafdojoeaa
open Go.RowKit

set_option maxHeartbeats 8000000 in
theorem iAddD (a b c d k a' b' c' d' k' : Int) (w : World) :
    Calls Try.prog 176 #[.agg #[.int .i64 a, .int .i64 b, .int .i64 c, .int .i64 d, .int .i64 k], .agg #[.int .i64 a', .int .i64 b', .int .i64 c', .int .i64 d', .int .i64 k']] w fun e w' => e = .returned (.tuple #[Dv (addD ⟨⟨a, b, c, d⟩, k⟩ ⟨⟨a', b', c', d'⟩, k'⟩).1, .bool (addD ⟨⟨a, b, c, d⟩, k⟩ ⟨⟨a', b', c', d'⟩, k'⟩).2]) ∧ Below w.heap.size w w' := by
  by_cases hx : DO.ok ⟨⟨a, b, c, d⟩, k⟩ = true
  · by_cases hy : DO.ok ⟨⟨a', b', c', d'⟩, k'⟩ = true
    · have xe := ((DO.ok_iff _).1 hx).2.1
      have ye := ((DO.ok_iff _).1 hy).2.1
      dsimp only at xe ye
      obtain ⟨xe1, xe2⟩ := xe
      obtain ⟨ye1, ye2⟩ := ye
      by_cases hlt : k < k'
      · have hadd : addD ⟨⟨a, b, c, d⟩, k⟩ ⟨⟨a', b', c', d'⟩, k'⟩ = addG ⟨⟨a', b', c', d'⟩, k'⟩ ⟨⟨a, b, c, d⟩, k⟩ := by simp only [addD, hx, hy, Bool.and_self, if_true, if_pos hlt]
        have hadd := Lib.hid hadd
        go_enter Try.func176, Try.ntmps176
        go_wp2_with fail
        refine (iIsValidD _ _ _ _ _ _).mono ?_
        rintro e w1 ⟨rfl, hb1⟩
        obtain ⟨hc1, hf1, hz1⟩ := bcell hb1
        try simp at hz1
        have z1_0 : w.heap.size < w1.heap.size := by omega
        have z1_1 : w.heap.size + 1 < w1.heap.size := by omega
        have z1_2 : w.heap.size + 1 + 1 < w1.heap.size := by omega
        go_wp2_with fail
        refine (iIsValidD _ _ _ _ _ _).mono ?_
        rintro e w2 ⟨rfl, hb2⟩
        obtain ⟨hc2, hf2, hz2⟩ := bcell hb2
        try simp at hz2
        have z2_0 : w.heap.size < w2.heap.size := by omega
        have z2_1 : w.heap.size + 1 < w2.heap.size := by omega
        have z2_2 : w.heap.size + 1 + 1 < w2.heap.size := by omega
        go_wp2
        skip
        go_loopw [7] (fun v wr => ∃ (n : Z4) (j : Int), v = .int .i64 j ∧ k ≤ j ∧ j ≤ k' ∧ Hid (up (k' - j).toNat n = up (k' - k).toNat ⟨a, b, c, d⟩) ∧ Blk wr w.heap.size [.int .i64 a', .int .i64 b', .int .i64 c', .int .i64 d', .int .i64 k'] 114 ∧ Blk wr (w.heap.size + 1) [.int .i64 a, .int .i64 b, .int .i64 c, .int .i64 d, .int .i64 k] 114 ∧ Blk wr (w.heap.size + 1 + 1) [.int .i64 0, .int .i64 0, .int .i64 0, .int .i64 0, .int .i64 0] 114 ∧ Blk wr w2.heap.size [.int .i64 n.a, .int .i64 n.b, .int .i64 n.c, .int .i64 n.d] 112 ∧ Below w.heap.size w wr) (fun v _ => (k' - intOf v).toNat)
        case atStart => exact ⟨⟨a, b, c, d⟩, k, rfl, by omega, by omega, rfl, by (repeat (first | with_reducible assumption | with_reducible exact Blk.new' _ _ (by first | omega | (simp; done) | (simp; omega)) | with_reducible apply Blk.set5 | with_reducible apply Blk.set4 | with_reducible refine Blk.other ?_ (by first | omega | (simp; done) | (simp; omega)) _ | with_reducible refine Blk.drew ?_ | with_reducible refine Blk.alloc ?_ _ | with_reducible refine Blk.below ?_ (by assumption) (by first | omega | (simp; done) | (simp; omega)))), by (repeat (first | with_reducible assumption | with_reducible exact Blk.new' _ _ (by first | omega | (simp; done) | (simp; omega)) | with_reducible apply Blk.set5 | with_reducible apply Blk.set4 | with_reducible refine Blk.other ?_ (by first | omega | (simp; done) | (simp; omega)) _ | with_reducible refine Blk.drew ?_ | with_reducible refine Blk.alloc ?_ _ | with_reducible refine Blk.below ?_ (by assumption) (by first | omega | (simp; done) | (simp; omega)))), by (repeat (first | with_reducible assumption | with_reducible exact Blk.new' _ _ (by first | omega | (simp; done) | (simp; omega)) | with_reducible apply Blk.set5 | with_reducible apply Blk.set4 | with_reducible refine Blk.other ?_ (by first | omega | (simp; done) | (simp; omega)) _ | with_reducible refine Blk.drew ?_ | with_reducible refine Blk.alloc ?_ _ | with_reducible refine Blk.below ?_ (by assumption) (by first | omega | (simp; done) | (simp; omega)))), by (repeat (first | with_reducible assumption | with_reducible exact Blk.new' _ _ (by first | omega | (simp; done) | (simp; omega)) | with_reducible apply Blk.set5 | with_reducible apply Blk.set4 | with_reducible refine Blk.other ?_ (by first | omega | (simp; done) | (simp; omega)) _ | with_reducible refine Blk.drew ?_ | with_reducible refine Blk.alloc ?_ _ | with_reducible refine Blk.below ?_ (by assumption) (by first | omega | (simp; done) | (simp; omega)))), by (repeat (first | with_reducible exact Below.refl _ _ | with_reducible assumption | with_reducible refine Below.setCell ?_ (by first | omega | (simp; done) | (simp; omega)) _ | with_reducible refine Below.alloc ?_ (by first | omega | (simp; done) | (simp; omega)) _ | with_reducible refine Below.drew ?_ | with_reducible refine Below.trans ?_ (Below.mono (by assumption) (by first | omega | (simp; done) | (simp; omega)))))⟩
        case round =>
          obtain ⟨⟨p, q, r, s⟩, j, rfl, h0, h1, hinv, hB, hB1, hB2, hN, hb0⟩ := hrel
          dsimp only at hN
          obtain ⟨cB, fB, sB⟩ := hB.facts
          obtain ⟨cB1, fB1, sB1⟩ := hB1.facts
          obtain ⟨cB2, fB2, sB2⟩ := hB2.facts
          obtain ⟨cN, fN, sN⟩ := hN.facts
          clear hc1 hf1 hc2 hf2 hz1 hz2
          by_cases hj : j < k'
          · by_cases hm : (mulZ ⟨p, q, r, s⟩ ⟨0, 1, 0, -1⟩).2 = true
            · go_wp2
              go_region_held3 (fun w' => Below wr.heap.size wr w' ∧ (∀ b o, b < wr.heap.size → w'.cell? ⟨b, o, none⟩ = wr.cell? ⟨b, o, none⟩) ∧ (∀ b o, b < wr.heap.size → w'.frozen? ⟨b, o, none⟩ = wr.frozen? ⟨b, o, none⟩) ∧ wr.heap.size ≤ w'.heap.size) ((exact bpack (by (repeat (first | with_reducible exact Below.refl _ _ | with_reducible assumption | with_reducible refine Below.setCell ?_ (by first | omega | (simp; done) | (simp; omega)) _ | with_reducible refine Below.alloc ?_ (by first | omega | (simp; done) | (simp; omega)) _ | with_reducible refine Below.drew ?_ | with_reducible refine Below.trans ?_ (Below.mono (by assumption) (by first | omega | (simp; done) | (simp; omega)))))))) (first | (go_at_call 197; refine (iRoot _).mono ?_; rintro e wa ⟨rfl, hb⟩; obtain ⟨hc, hf, hz⟩ := bcell hb; (try simp only [World.size_drew, World.cell?_drew, World.frozen?_drew] at hc hf hz); (try simp at hz); (try have z0 : w.heap.size < wa.heap.size := by omega); (try have z1 : w.heap.size + 1 < wa.heap.size := by omega); (try have z2 : w.heap.size + 1 + 1 < wa.heap.size := by omega); (try have z3 : w2.heap.size < wa.heap.size := by omega); (try have z4 : wr.heap.size < wa.heap.size := by omega)) | (go_at_call 174; refine (iMulZ _ _ _ _ _ _ _ _ _).mono ?_; rintro e wb ⟨rfl, hb⟩; obtain ⟨hc, hf, hz⟩ := bcell hb; (try simp only [World.size_drew, World.cell?_drew, World.frozen?_drew] at hc hf hz); (try simp at hz); (try have z0 : w.heap.size < wb.heap.size := by omega); (try have z1 : w.heap.size + 1 < wb.heap.size := by omega); (try have z2 : w.heap.size + 1 + 1 < wb.heap.size := by omega); (try have z3 : w2.heap.size < wb.heap.size := by omega); (try have z4 : wr.heap.size < wb.heap.size := by omega); (try have z5 : wa.heap.size < wb.heap.size := by omega)))
              all_goals go_wp2
              all_goals go_roundw
              all_goals first
                | exact ⟨(mulZ ⟨p, q, r, s⟩ ⟨0, 1, 0, -1⟩).1, j + 1, rfl, by omega, by omega, up_more hj hinv.out hm, by (repeat (first | with_reducible assumption | with_reducible exact Blk.new' _ _ (by first | omega | (simp; done) | (simp; omega)) | with_reducible apply Blk.set5 | with_reducible apply Blk.set4 | with_reducible refine Blk.other ?_ (by first | omega | (simp; done) | (simp; omega)) _ | with_reducible refine Blk.drew ?_ | with_reducible refine Blk.alloc ?_ _ | with_reducible refine Blk.below ?_ (by assumption) (by first | omega | (simp; done) | (simp; omega)))), by (repeat (first | with_reducible assumption | with_reducible exact Blk.new' _ _ (by first | omega | (simp; done) | (simp; omega)) | with_reducible apply Blk.set5 | with_reducible apply Blk.set4 | with_reducible refine Blk.other ?_ (by first | omega | (simp; done) | (simp; omega)) _ | with_reducible refine Blk.drew ?_ | with_reducible refine Blk.alloc ?_ _ | with_reducible refine Blk.below ?_ (by assumption) (by first | omega | (simp; done) | (simp; omega)))), by (repeat (first | with_reducible assumption | with_reducible exact Blk.new' _ _ (by first | omega | (simp; done) | (simp; omega)) | with_reducible apply Blk.set5 | with_reducible apply Blk.set4 | with_reducible refine Blk.other ?_ (by first | omega | (simp; done) | (simp; omega)) _ | with_reducible refine Blk.drew ?_ | with_reducible refine Blk.alloc ?_ _ | with_reducible refine Blk.below ?_ (by assumption) (by first | omega | (simp; done) | (simp; omega)))), by (repeat (first | with_reducible assumption | with_reducible exact Blk.new' _ _ (by first | omega | (simp; done) | (simp; omega)) | with_reducible apply Blk.set5 | with_reducible apply Blk.set4 | with_reducible refine Blk.other ?_ (by first | omega | (simp; done) | (simp; omega)) _ | with_reducible refine Blk.drew ?_ | with_reducible refine Blk.alloc ?_ _ | with_reducible refine Blk.below ?_ (by assumption) (by first | omega | (simp; done) | (simp; omega)))), by (repeat (first | with_reducible exact Below.refl _ _ | with_reducible assumption | with_reducible refine Below.setCell ?_ (by first | omega | (simp; done) | (simp; omega)) _ | with_reducible refine Below.alloc ?_ (by first | omega | (simp; done) | (simp; omega)) _ | with_reducible refine Below.drew ?_ | with_reducible refine Below.trans ?_ (Below.mono (by assumption) (by first | omega | (simp; done) | (simp; omega)))))⟩
                | (simp [intOf]; omega)
            · have hfin := Lib.hid (hadd.out.trans (addG_fail (x := ⟨⟨a', b', c', d'⟩, k'⟩) (y := ⟨⟨a, b, c, d⟩, k⟩) (up_fail hj hinv.out hm)))
              go_wp2
              go_region_held3 (fun w' => Below wr.heap.size wr w' ∧ (∀ b o, b < wr.heap.size → w'.cell? ⟨b, o, none⟩ = wr.cell? ⟨b, o, none⟩) ∧ (∀ b o, b < wr.heap.size → w'.frozen? ⟨b, o, none⟩ = wr.frozen? ⟨b, o, none⟩) ∧ wr.heap.size ≤ w'.heap.size) ((exact bpack (by (repeat (first | with_reducible exact Below.refl _ _ | with_reducible assumption | with_reducible refine Below.setCell ?_ (by first | omega | (simp; done) | (simp; omega)) _ | with_reducible refine Below.alloc ?_ (by first | omega | (simp; done) | (simp; omega)) _ | with_reducible refine Below.drew ?_ | with_reducible refine Below.trans ?_ (Below.mono (by assumption) (by first | omega | (simp; done) | (simp; omega)))))))) (first | (go_at_call 197; refine (iRoot _).mono ?_; rintro e wa ⟨rfl, hb⟩; obtain ⟨hc, hf, hz⟩ := bcell hb; (try simp only [World.size_drew, World.cell?_drew, World.frozen?_drew] at hc hf hz); (try simp at hz); (try have z0 : w.heap.size < wa.heap.size := by omega); (try have z1 : w.heap.size + 1 < wa.heap.size := by omega); (try have z2 : w.heap.size + 1 + 1 < wa.heap.size := by omega); (try have z3 : w2.heap.size < wa.heap.size := by omega); (try have z4 : wr.heap.size < wa.heap.size := by omega)) | (go_at_call 174; refine (iMulZ _ _ _ _ _ _ _ _ _).mono ?_; rintro e wb ⟨rfl, hb⟩; obtain ⟨hc, hf, hz⟩ := bcell hb; (try simp only [World.size_drew, World.cell?_drew, World.frozen?_drew] at hc hf hz); (try simp at hz); (try have z0 : w.heap.size < wb.heap.size := by omega); (try have z1 : w.heap.size + 1 < wb.heap.size := by omega); (try have z2 : w.heap.size + 1 + 1 < wb.heap.size := by omega); (try have z3 : w2.heap.size < wb.heap.size := by omega); (try have z4 : wr.heap.size < wb.heap.size := by omega); (try have z5 : wa.heap.size < wb.heap.size := by omega)))
              all_goals go_wp2
              all_goals exact bodyPost_ret (v := .tuple #[.agg #[.int .i64 0, .int .i64 0, .int .i64 0, .int .i64 0, .int .i64 0], .bool false]) (by simp [results, Try.results176, go_sem, *]) rfl ⟨by rw [hfin.out], by (repeat (first | with_reducible exact Below.refl _ _ | with_reducible assumption | with_reducible refine Below.setCell ?_ (by first | omega | (simp; done) | (simp; omega)) _ | with_reducible refine Below.alloc ?_ (by first | omega | (simp; done) | (simp; omega)) _ | with_reducible refine Below.drew ?_ | with_reducible refine Below.trans ?_ (Below.mono (by assumption) (by first | omega | (simp; done) | (simp; omega)))))⟩
          · have hu := up_stop hj hinv.out
            obtain rfl : j = k' := by omega
            by_cases ha : (addZ ⟨a', b', c', d'⟩ ⟨p, q, r, s⟩).2 = true
            · have hfin := Lib.hid (hadd.out.trans (addG_yes (x := ⟨⟨a', b', c', d'⟩, j⟩) (y := ⟨⟨a, b, c, d⟩, k⟩) hu ha))
              clear hu
              go_wp2_with fail
              refine (iAddZ _ _ _ _ _ _ _ _ _).mono ?_
              rintro e x1 ⟨rfl, hbx1⟩
              obtain ⟨hcx1, hfx1, hzx1⟩ := bcell hbx1
              try simp at hzx1
              have zx1_0 : w.heap.size < x1.heap.size := by omega
              have zx1_1 : w.heap.size + 1 < x1.heap.size := by omega
              have zx1_2 : w.heap.size + 1 + 1 < x1.heap.size := by omega
              have zx1_3 : w2.heap.size < x1.heap.size := by omega
              go_wp2_with fail
              refine (iNew _ _ _ _ _ _).mono ?_
              rintro e x2 ⟨rfl, hbx2⟩
              obtain ⟨hcx2, hfx2, hzx2⟩ := bcell hbx2
              try simp at hzx2
              have zx2_0 : w.heap.size < x2.heap.size := by omega
              have zx2_1 : w.heap.size + 1 < x2.heap.size := by omega
              have zx2_2 : w.heap.size + 1 + 1 < x2.heap.size := by omega
              have zx2_3 : w2.heap.size < x2.heap.size := by omega
              have zx2_4 : x1.heap.size < x2.heap.size := by omega
              go_wp2
              exact bodyPost_ret (v := .tuple #[Dv (newD (addZ ⟨a', b', c', d'⟩ ⟨p, q, r, s⟩).1 j).1, .bool (newD (addZ ⟨a', b', c', d'⟩ ⟨p, q, r, s⟩).1 j).2]) (by simp [results, Try.results176, go_sem, *]) rfl ⟨by rw [hfin.out], by (repeat (first | with_reducible exact Below.refl _ _ | with_reducible assumption | with_reducible refine Below.setCell ?_ (by first | omega | (simp; done) | (simp; omega)) _ | with_reducible refine Below.alloc ?_ (by first | omega | (simp; done) | (simp; omega)) _ | with_reducible refine Below.drew ?_ | with_reducible refine Below.trans ?_ (Below.mono (by assumption) (by first | omega | (simp; done) | (simp; omega)))))⟩
            · have hfin := Lib.hid (hadd.out.trans (addG_no (x := ⟨⟨a', b', c', d'⟩, j⟩) (y := ⟨⟨a, b, c, d⟩, k⟩) hu ha))
              clear hu
              go_wp2_with fail
              refine (iAddZ _ _ _ _ _ _ _ _ _).mono ?_
              rintro e x1 ⟨rfl, hbx1⟩
              obtain ⟨hcx1, hfx1, hzx1⟩ := bcell hbx1
              try simp at hzx1
              have zx1_0 : w.heap.size < x1.heap.size := by omega
              have zx1_1 : w.heap.size + 1 < x1.heap.size := by omega
              have zx1_2 : w.heap.size + 1 + 1 < x1.heap.size := by omega
              have zx1_3 : w2.heap.size < x1.heap.size := by omega
              go_wp2
              exact bodyPost_ret (v := .tuple #[.agg #[.int .i64 0, .int .i64 0, .int .i64 0, .int .i64 0, .int .i64 0], .bool false]) (by simp [results, Try.results176, go_sem, *]) rfl ⟨by rw [hfin.out], by (repeat (first | with_reducible exact Below.refl _ _ | with_reducible assumption | with_reducible refine Below.setCell ?_ (by first | omega | (simp; done) | (simp; omega)) _ | with_reducible refine Below.alloc ?_ (by first | omega | (simp; done) | (simp; omega)) _ | with_reducible refine Below.drew ?_ | with_reducible refine Below.trans ?_ (Below.mono (by assumption) (by first | omega | (simp; done) | (simp; omega)))))⟩
      · have hadd : addD ⟨⟨a, b, c, d⟩, k⟩ ⟨⟨a', b', c', d'⟩, k'⟩ = addG ⟨⟨a, b, c, d⟩, k⟩ ⟨⟨a', b', c', d'⟩, k'⟩ := by simp only [addD, hx, hy, Bool.and_self, if_true, if_neg hlt]
        have hadd := Lib.hid hadd
        go_enter Try.func176, Try.ntmps176
        go_wp2_with fail
        refine (iIsValidD _ _ _ _ _ _).mono ?_
        rintro e w1 ⟨rfl, hb1⟩
        obtain ⟨hc1, hf1, hz1⟩ := bcell hb1
        try simp at hz1
        have z1_0 : w.heap.size < w1.heap.size := by omega
        have z1_1 : w.heap.size + 1 < w1.heap.size := by omega
        have z1_2 : w.heap.size + 1 + 1 < w1.heap.size := by omega
        go_wp2_with fail
        refine (iIsValidD _ _ _ _ _ _).mono ?_
        rintro e w2 ⟨rfl, hb2⟩
        obtain ⟨hc2, hf2, hz2⟩ := bcell hb2
        try simp at hz2
        have z2_0 : w.heap.size < w2.heap.size := by omega
        have z2_1 : w.heap.size + 1 < w2.heap.size := by omega
        have z2_2 : w.heap.size + 1 + 1 < w2.heap.size := by omega
        go_wp2
        skip
        go_loopw [7] (fun v wr => ∃ (n : Z4) (j : Int), v = .int .i64 j ∧ k' ≤ j ∧ j ≤ k ∧ Hid (up (k - j).toNat n = up (k - k').toNat ⟨a', b', c', d'⟩) ∧ Blk wr w.heap.size [.int .i64 a, .int .i64 b, .int .i64 c, .int .i64 d, .int .i64 k] 114 ∧ Blk wr (w.heap.size + 1) [.int .i64 a', .int .i64 b', .int .i64 c', .int .i64 d', .int .i64 k'] 114 ∧ Blk wr (w.heap.size + 1 + 1) [.int .i64 0, .int .i64 0, .int .i64 0, .int .i64 0, .int .i64 0] 114 ∧ Blk wr w2.heap.size [.int .i64 n.a, .int .i64 n.b, .int .i64 n.c, .int .i64 n.d] 112 ∧ Below w.heap.size w wr) (fun v _ => (k - intOf v).toNat)
        case atStart => exact ⟨⟨a', b', c', d'⟩, k', rfl, by omega, by omega, rfl, by (repeat (first | with_reducible assumption | with_reducible exact Blk.new' _ _ (by first | omega | (simp; done) | (simp; omega)) | with_reducible apply Blk.set5 | with_reducible apply Blk.set4 | with_reducible refine Blk.other ?_ (by first | omega | (simp; done) | (simp; omega)) _ | with_reducible refine Blk.drew ?_ | with_reducible refine Blk.alloc ?_ _ | with_reducible refine Blk.below ?_ (by assumption) (by first | omega | (simp; done) | (simp; omega)))), by (repeat (first | with_reducible assumption | with_reducible exact Blk.new' _ _ (by first | omega | (simp; done) | (simp; omega)) | with_reducible apply Blk.set5 | with_reducible apply Blk.set4 | with_reducible refine Blk.other ?_ (by first | omega | (simp; done) | (simp; omega)) _ | with_reducible refine Blk.drew ?_ | with_reducible refine Blk.alloc ?_ _ | with_reducible refine Blk.below ?_ (by assumption) (by first | omega | (simp; done) | (simp; omega)))), by (repeat (first | with_reducible assumption | with_reducible exact Blk.new' _ _ (by first | omega | (simp; done) | (simp; omega)) | with_reducible apply Blk.set5 | with_reducible apply Blk.set4 | with_reducible refine Blk.other ?_ (by first | omega | (simp; done) | (simp; omega)) _ | with_reducible refine Blk.drew ?_ | with_reducible refine Blk.alloc ?_ _ | with_reducible refine Blk.below ?_ (by assumption) (by first | omega | (simp; done) | (simp; omega)))), by (repeat (first | with_reducible assumption | with_reducible exact Blk.new' _ _ (by first | omega | (simp; done) | (simp; omega)) | with_reducible apply Blk.set5 | with_reducible apply Blk.set4 | with_reducible refine Blk.other ?_ (by first | omega | (simp; done) | (simp; omega)) _ | with_reducible refine Blk.drew ?_ | with_reducible refine Blk.alloc ?_ _ | with_reducible refine Blk.below ?_ (by assumption) (by first | omega | (simp; done) | (simp; omega)))), by (repeat (first | with_reducible exact Below.refl _ _ | with_reducible assumption | with_reducible refine Below.setCell ?_ (by first | omega | (simp; done) | (simp; omega)) _ | with_reducible refine Below.alloc ?_ (by first | omega | (simp; done) | (simp; omega)) _ | with_reducible refine Below.drew ?_ | with_reducible refine Below.trans ?_ (Below.mono (by assumption) (by first | omega | (simp; done) | (simp; omega)))))⟩
        case round =>
          obtain ⟨⟨p, q, r, s⟩, j, rfl, h0, h1, hinv, hB, hB1, hB2, hN, hb0⟩ := hrel
          dsimp only at hN
          obtain ⟨cB, fB, sB⟩ := hB.facts
          obtain ⟨cB1, fB1, sB1⟩ := hB1.facts
          obtain ⟨cB2, fB2, sB2⟩ := hB2.facts
          obtain ⟨cN, fN, sN⟩ := hN.facts
          clear hc1 hf1 hc2 hf2 hz1 hz2
          by_cases hj : j < k
          · by_cases hm : (mulZ ⟨p, q, r, s⟩ ⟨0, 1, 0, -1⟩).2 = true
            · go_wp2
              go_region_held3 (fun w' => Below wr.heap.size wr w' ∧ (∀ b o, b < wr.heap.size → w'.cell? ⟨b, o, none⟩ = wr.cell? ⟨b, o, none⟩) ∧ (∀ b o, b < wr.heap.size → w'.frozen? ⟨b, o, none⟩ = wr.frozen? ⟨b, o, none⟩) ∧ wr.heap.size ≤ w'.heap.size) ((exact bpack (by (repeat (first | with_reducible exact Below.refl _ _ | with_reducible assumption | with_reducible refine Below.setCell ?_ (by first | omega | (simp; done) | (simp; omega)) _ | with_reducible refine Below.alloc ?_ (by first | omega | (simp; done) | (simp; omega)) _ | with_reducible refine Below.drew ?_ | with_reducible refine Below.trans ?_ (Below.mono (by assumption) (by first | omega | (simp; done) | (simp; omega)))))))) (first | (go_at_call 197; refine (iRoot _).mono ?_; rintro e wa ⟨rfl, hb⟩; obtain ⟨hc, hf, hz⟩ := bcell hb; (try simp only [World.size_drew, World.cell?_drew, World.frozen?_drew] at hc hf hz); (try simp at hz); (try have z0 : w.heap.size < wa.heap.size := by omega); (try have z1 : w.heap.size + 1 < wa.heap.size := by omega); (try have z2 : w.heap.size + 1 + 1 < wa.heap.size := by omega); (try have z3 : w2.heap.size < wa.heap.size := by omega); (try have z4 : wr.heap.size < wa.heap.size := by omega)) | (go_at_call 174; refine (iMulZ _ _ _ _ _ _ _ _ _).mono ?_; rintro e wb ⟨rfl, hb⟩; obtain ⟨hc, hf, hz⟩ := bcell hb; (try simp only [World.size_drew, World.cell?_drew, World.frozen?_drew] at hc hf hz); (try simp at hz); (try have z0 : w.heap.size < wb.heap.size := by omega); (try have z1 : w.heap.size + 1 < wb.heap.size := by omega); (try have z2 : w.heap.size + 1 + 1 < wb.heap.size := by omega); (try have z3 : w2.heap.size < wb.heap.size := by omega); (try have z4 : wr.heap.size < wb.heap.size := by omega); (try have z5 : wa.heap.size < wb.heap.size := by omega)))
              all_goals go_wp2
              all_goals go_roundw
              all_goals first
                | exact ⟨(mulZ ⟨p, q, r, s⟩ ⟨0, 1, 0, -1⟩).1, j + 1, rfl, by omega, by omega, up_more hj hinv.out hm, by (repeat (first | with_reducible assumption | with_reducible exact Blk.new' _ _ (by first | omega | (simp; done) | (simp; omega)) | with_reducible apply Blk.set5 | with_reducible apply Blk.set4 | with_reducible refine Blk.other ?_ (by first | omega | (simp; done) | (simp; omega)) _ | with_reducible refine Blk.drew ?_ | with_reducible refine Blk.alloc ?_ _ | with_reducible refine Blk.below ?_ (by assumption) (by first | omega | (simp; done) | (simp; omega)))), by (repeat (first | with_reducible assumption | with_reducible exact Blk.new' _ _ (by first | omega | (simp; done) | (simp; omega)) | with_reducible apply Blk.set5 | with_reducible apply Blk.set4 | with_reducible refine Blk.other ?_ (by first | omega | (simp; done) | (simp; omega)) _ | with_reducible refine Blk.drew ?_ | with_reducible refine Blk.alloc ?_ _ | with_reducible refine Blk.below ?_ (by assumption) (by first | omega | (simp; done) | (simp; omega)))), by (repeat (first | with_reducible assumption | with_reducible exact Blk.new' _ _ (by first | omega | (simp; done) | (simp; omega)) | with_reducible apply Blk.set5 | with_reducible apply Blk.set4 | with_reducible refine Blk.other ?_ (by first | omega | (simp; done) | (simp; omega)) _ | with_reducible refine Blk.drew ?_ | with_reducible refine Blk.alloc ?_ _ | with_reducible refine Blk.below ?_ (by assumption) (by first | omega | (simp; done) | (simp; omega)))), by (repeat (first | with_reducible assumption | with_reducible exact Blk.new' _ _ (by first | omega | (simp; done) | (simp; omega)) | with_reducible apply Blk.set5 | with_reducible apply Blk.set4 | with_reducible refine Blk.other ?_ (by first | omega | (simp; done) | (simp; omega)) _ | with_reducible refine Blk.drew ?_ | with_reducible refine Blk.alloc ?_ _ | with_reducible refine Blk.below ?_ (by assumption) (by first | omega | (simp; done) | (simp; omega)))), by (repeat (first | with_reducible exact Below.refl _ _ | with_reducible assumption | with_reducible refine Below.setCell ?_ (by first | omega | (simp; done) | (simp; omega)) _ | with_reducible refine Below.alloc ?_ (by first | omega | (simp; done) | (simp; omega)) _ | with_reducible refine Below.drew ?_ | with_reducible refine Below.trans ?_ (Below.mono (by assumption) (by first | omega | (simp; done) | (simp; omega)))))⟩
                | (simp [intOf]; omega)
            · have hfin := Lib.hid (hadd.out.trans (addG_fail (x := ⟨⟨a, b, c, d⟩, k⟩) (y := ⟨⟨a', b', c', d'⟩, k'⟩) (up_fail hj hinv.out hm)))
              go_wp2
              go_region_held3 (fun w' => Below wr.heap.size wr w' ∧ (∀ b o, b < wr.heap.size → w'.cell? ⟨b, o, none⟩ = wr.cell? ⟨b, o, none⟩) ∧ (∀ b o, b < wr.heap.size → w'.frozen? ⟨b, o, none⟩ = wr.frozen? ⟨b, o, none⟩) ∧ wr.heap.size ≤ w'.heap.size) ((exact bpack (by (repeat (first | with_reducible exact Below.refl _ _ | with_reducible assumption | with_reducible refine Below.setCell ?_ (by first | omega | (simp; done) | (simp; omega)) _ | with_reducible refine Below.alloc ?_ (by first | omega | (simp; done) | (simp; omega)) _ | with_reducible refine Below.drew ?_ | with_reducible refine Below.trans ?_ (Below.mono (by assumption) (by first | omega | (simp; done) | (simp; omega)))))))) (first | (go_at_call 197; refine (iRoot _).mono ?_; rintro e wa ⟨rfl, hb⟩; obtain ⟨hc, hf, hz⟩ := bcell hb; (try simp only [World.size_drew, World.cell?_drew, World.frozen?_drew] at hc hf hz); (try simp at hz); (try have z0 : w.heap.size < wa.heap.size := by omega); (try have z1 : w.heap.size + 1 < wa.heap.size := by omega); (try have z2 : w.heap.size + 1 + 1 < wa.heap.size := by omega); (try have z3 : w2.heap.size < wa.heap.size := by omega); (try have z4 : wr.heap.size < wa.heap.size := by omega)) | (go_at_call 174; refine (iMulZ _ _ _ _ _ _ _ _ _).mono ?_; rintro e wb ⟨rfl, hb⟩; obtain ⟨hc, hf, hz⟩ := bcell hb; (try simp only [World.size_drew, World.cell?_drew, World.frozen?_drew] at hc hf hz); (try simp at hz); (try have z0 : w.heap.size < wb.heap.size := by omega); (try have z1 : w.heap.size + 1 < wb.heap.size := by omega); (try have z2 : w.heap.size + 1 + 1 < wb.heap.size := by omega); (try have z3 : w2.heap.size < wb.heap.size := by omega); (try have z4 : wr.heap.size < wb.heap.size := by omega); (try have z5 : wa.heap.size < wb.heap.size := by omega)))
              all_goals go_wp2
              all_goals exact bodyPost_ret (v := .tuple #[.agg #[.int .i64 0, .int .i64 0, .int .i64 0, .int .i64 0, .int .i64 0], .bool false]) (by simp [results, Try.results176, go_sem, *]) rfl ⟨by rw [hfin.out], by (repeat (first | with_reducible exact Below.refl _ _ | with_reducible assumption | with_reducible refine Below.setCell ?_ (by first | omega | (simp; done) | (simp; omega)) _ | with_reducible refine Below.alloc ?_ (by first | omega | (simp; done) | (simp; omega)) _ | with_reducible refine Below.drew ?_ | with_reducible refine Below.trans ?_ (Below.mono (by assumption) (by first | omega | (simp; done) | (simp; omega)))))⟩
          · have hu := up_stop hj hinv.out
            obtain rfl : j = k := by omega
            by_cases ha : (addZ ⟨a, b, c, d⟩ ⟨p, q, r, s⟩).2 = true
            · have hfin := Lib.hid (hadd.out.trans (addG_yes (x := ⟨⟨a, b, c, d⟩, j⟩) (y := ⟨⟨a', b', c', d'⟩, k'⟩) hu ha))
              clear hu
              go_wp2_with fail
              refine (iAddZ _ _ _ _ _ _ _ _ _).mono ?_
              rintro e x1 ⟨rfl, hbx1⟩
              obtain ⟨hcx1, hfx1, hzx1⟩ := bcell hbx1
              try simp at hzx1
              have zx1_0 : w.heap.size < x1.heap.size := by omega
              have zx1_1 : w.heap.size + 1 < x1.heap.size := by omega
              have zx1_2 : w.heap.size + 1 + 1 < x1.heap.size := by omega
              have zx1_3 : w2.heap.size < x1.heap.size := by omega
              go_wp2_with fail
              refine (iNew _ _ _ _ _ _).mono ?_
              rintro e x2 ⟨rfl, hbx2⟩
              obtain ⟨hcx2, hfx2, hzx2⟩ := bcell hbx2
              try simp at hzx2
              have zx2_0 : w.heap.size < x2.heap.size := by omega
              have zx2_1 : w.heap.size + 1 < x2.heap.size := by omega
              have zx2_2 : w.heap.size + 1 + 1 < x2.heap.size := by omega
              have zx2_3 : w2.heap.size < x2.heap.size := by omega
              have zx2_4 : x1.heap.size < x2.heap.size := by omega
              go_wp2
              exact bodyPost_ret (v := .tuple #[Dv (newD (addZ ⟨a, b, c, d⟩ ⟨p, q, r, s⟩).1 j).1, .bool (newD (addZ ⟨a, b, c, d⟩ ⟨p, q, r, s⟩).1 j).2]) (by simp [results, Try.results176, go_sem, *]) rfl ⟨by rw [hfin.out], by (repeat (first | with_reducible exact Below.refl _ _ | with_reducible assumption | with_reducible refine Below.setCell ?_ (by first | omega | (simp; done) | (simp; omega)) _ | with_reducible refine Below.alloc ?_ (by first | omega | (simp; done) | (simp; omega)) _ | with_reducible refine Below.drew ?_ | with_reducible refine Below.trans ?_ (Below.mono (by assumption) (by first | omega | (simp; done) | (simp; omega)))))⟩
            · have hfin := Lib.hid (hadd.out.trans (addG_no (x := ⟨⟨a, b, c, d⟩, j⟩) (y := ⟨⟨a', b', c', d'⟩, k'⟩) hu ha))
              clear hu
              go_wp2_with fail
              refine (iAddZ _ _ _ _ _ _ _ _ _).mono ?_
              rintro e x1 ⟨rfl, hbx1⟩
              obtain ⟨hcx1, hfx1, hzx1⟩ := bcell hbx1
              try simp at hzx1
              have zx1_0 : w.heap.size < x1.heap.size := by omega
              have zx1_1 : w.heap.size + 1 < x1.heap.size := by omega
              have zx1_2 : w.heap.size + 1 + 1 < x1.heap.size := by omega
              have zx1_3 : w2.heap.size < x1.heap.size := by omega
              go_wp2
              exact bodyPost_ret (v := .tuple #[.agg #[.int .i64 0, .int .i64 0, .int .i64 0, .int .i64 0, .int .i64 0], .bool false]) (by simp [results, Try.results176, go_sem, *]) rfl ⟨by rw [hfin.out], by (repeat (first | with_reducible exact Below.refl _ _ | with_reducible assumption | with_reducible refine Below.setCell ?_ (by first | omega | (simp; done) | (simp; omega)) _ | with_reducible refine Below.alloc ?_ (by first | omega | (simp; done) | (simp; omega)) _ | with_reducible refine Below.drew ?_ | with_reducible refine Below.trans ?_ (Below.mono (by assumption) (by first | omega | (simp; done) | (simp; omega)))))⟩
    · go_enter Try.func176, Try.ntmps176
      go_wp2_with fail
      refine (iIsValidD _ _ _ _ _ _).mono ?_
      rintro e w1 ⟨rfl, hb1⟩
      obtain ⟨hc1, hf1, hz1⟩ := bcell hb1
      try simp at hz1
      have z1_0 : w.heap.size < w1.heap.size := by omega
      have z1_1 : w.heap.size + 1 < w1.heap.size := by omega
      have z1_2 : w.heap.size + 1 + 1 < w1.heap.size := by omega
      go_wp2_with fail
      refine (iIsValidD _ _ _ _ _ _).mono ?_
      rintro e w2 ⟨rfl, hb2⟩
      obtain ⟨hc2, hf2, hz2⟩ := bcell hb2
      try simp at hz2
      have z2_0 : w.heap.size < w2.heap.size := by omega
      have z2_1 : w.heap.size + 1 < w2.heap.size := by omega
      have z2_2 : w.heap.size + 1 + 1 < w2.heap.size := by omega
      go_wp2
      exact bodyPost_ret (v := .tuple #[.agg #[.int .i64 0, .int .i64 0, .int .i64 0, .int .i64 0, .int .i64 0], .bool false]) (by simp [results, Try.results176, go_sem, *]) rfl ⟨by simp [addD, hx, hy], by (repeat (first | with_reducible exact Below.refl _ _ | with_reducible assumption | with_reducible refine Below.setCell ?_ (by first | omega | (simp; done) | (simp; omega)) _ | with_reducible refine Below.alloc ?_ (by first | omega | (simp; done) | (simp; omega)) _ | with_reducible refine Below.drew ?_ | with_reducible refine Below.trans ?_ (Below.mono (by assumption) (by first | omega | (simp; done) | (simp; omega)))))⟩
  · go_enter Try.func176, Try.ntmps176
    go_wp2_with fail
    refine (iIsValidD _ _ _ _ _ _).mono ?_
    rintro e w1 ⟨rfl, hb1⟩
    obtain ⟨hc1, hf1, hz1⟩ := bcell hb1
    try simp at hz1
    have z1_0 : w.heap.size < w1.heap.size := by omega
    have z1_1 : w.heap.size + 1 < w1.heap.size := by omega
    have z1_2 : w.heap.size + 1 + 1 < w1.heap.size := by omega
    go_wp2
    exact bodyPost_ret (v := .tuple #[.agg #[.int .i64 0, .int .i64 0, .int .i64 0, .int .i64 0, .int .i64 0], .bool false]) (by simp [results, Try.results176, go_sem, *]) rfl ⟨by simp [addD, hx], by (repeat (first | with_reducible exact Below.refl _ _ | with_reducible assumption | with_reducible refine Below.setCell ?_ (by first | omega | (simp; done) | (simp; omega)) _ | with_reducible refine Below.alloc ?_ (by first | omega | (simp; done) | (simp; omega)) _ | with_reducible refine Below.drew ?_ | with_reducible refine Below.trans ?_ (Below.mono (by assumption) (by first | omega | (simp; done) | (simp; omega)))))⟩
end Go.Proofs.Yteckhaafdojoeaa

/-! O: The sum in D[omega]. -/
namespace Go.Proofs.Yteckhaafdojoeaa
open Go.RowKit

theorem sMax (a b : Int) (w : World) : Calls Try.prog 159 #[.int .i64 a, .int .i64 b] w fun e w' => e = .returned (.int .i64 (if b < a then a else b)) ∧ w = w' := by
  by_cases h : b < a
  all_goals
    go_enter Try.func159, Try.ntmps159
    go_wp2
    go_ret
    exact ⟨rfl, rfl⟩

set_option maxHeartbeats 4000000 in
theorem sUp (a b c d t : Int) (ht : t ≤ 1000) (w : World) :
    Calls Try.prog 171 #[.agg #[.int .i64 a, .int .i64 b, .int .i64 c, .int .i64 d], .int .i64 t] w fun e w' => e = .returned (.tuple #[Zv (up t.toNat ⟨a, b, c, d⟩).1, .bool (up t.toNat ⟨a, b, c, d⟩).2]) ∧ Below w.heap.size w w' := by
  go_enter Try.func171, Try.ntmps171
  go_wp2
  go_loopw [6] (fun v wr => ∃ (n : Z4) (j : Int), v = .int .i64 j ∧ 0 ≤ j ∧ (j ≤ t ∨ j = 0) ∧ Hid (up (t - j).toNat n = up t.toNat ⟨a, b, c, d⟩) ∧ Blk wr w.heap.size [.int .i64 n.a, .int .i64 n.b, .int .i64 n.c, .int .i64 n.d] 112 ∧ Blk wr (w.heap.size + 1) [.int .i64 0, .int .i64 0, .int .i64 0, .int .i64 0] 112 ∧ Below w.heap.size w wr) (fun v _ => (t - intOf v).toNat)
  case atStart => exact ⟨⟨a, b, c, d⟩, 0, rfl, by omega, by omega, by rw [Int.sub_zero]; exact rfl, by (repeat (first | with_reducible assumption | with_reducible exact Blk.new' _ _ (by first | omega | (simp; done) | (simp; omega)) | with_reducible apply Blk.set5 | with_reducible apply Blk.set4 | with_reducible refine Blk.other ?_ (by first | omega | (simp; done) | (simp; omega)) _ | with_reducible refine Blk.drew ?_ | with_reducible refine Blk.alloc ?_ _ | with_reducible refine Blk.below ?_ (by assumption) (by first | omega | (simp; done) | (simp; omega)))), by (repeat (first | with_reducible assumption | with_reducible exact Blk.new' _ _ (by first | omega | (simp; done) | (simp; omega)) | with_reducible apply Blk.set5 | with_reducible apply Blk.set4 | with_reducible refine Blk.other ?_ (by first | omega | (simp; done) | (simp; omega)) _ | with_reducible refine Blk.drew ?_ | with_reducible refine Blk.alloc ?_ _ | with_reducible refine Blk.below ?_ (by assumption) (by first | omega | (simp; done) | (simp; omega)))), by (repeat (first | with_reducible exact Below.refl _ _ | with_reducible assumption | with_reducible refine Below.setCell ?_ (by first | omega | (simp; done) | (simp; omega)) _ | with_reducible refine Below.alloc ?_ (by first | omega | (simp; done) | (simp; omega)) _ | with_reducible refine Below.drew ?_ | with_reducible refine Below.trans ?_ (Below.mono (by assumption) (by first | omega | (simp; done) | (simp; omega)))))⟩
  case round =>
    obtain ⟨⟨p, q, r, s⟩, j, rfl, h0, h1, hinv, hB, hB1, hb0⟩ := hrel
    dsimp only at hB
    obtain ⟨cB, fB, sB⟩ := hB.facts
    obtain ⟨cB1, fB1, sB1⟩ := hB1.facts
    by_cases hj : j < t
    · by_cases hm : (mulZ ⟨p, q, r, s⟩ ⟨0, 1, 0, -1⟩).2 = true
      · go_wp2_with fail
        refine (sMulZ _ _ _ _ _ _ _ _ _).mono ?_
        rintro e x1 ⟨rfl, hbx1⟩
        obtain ⟨hcx1, hfx1, hzx1⟩ := bcell hbx1
        try simp at hzx1
        have zx1_0 : w.heap.size < x1.heap.size := by omega
        have zx1_1 : w.heap.size + 1 < x1.heap.size := by omega
        go_wp2
        go_roundw
        case rel => exact ⟨(mulZ ⟨p, q, r, s⟩ ⟨0, 1, 0, -1⟩).1, j + 1, rfl, by omega, by omega, upc_more hj hinv.out hm, by (repeat (first | with_reducible assumption | with_reducible exact Blk.new' _ _ (by first | omega | (simp; done) | (simp; omega)) | with_reducible apply Blk.set5 | with_reducible apply Blk.set4 | with_reducible refine Blk.other ?_ (by first | omega | (simp; done) | (simp; omega)) _ | with_reducible refine Blk.drew ?_ | with_reducible refine Blk.alloc ?_ _ | with_reducible refine Blk.below ?_ (by assumption) (by first | omega | (simp; done) | (simp; omega)))), by (repeat (first | with_reducible assumption | with_reducible exact Blk.new' _ _ (by first | omega | (simp; done) | (simp; omega)) | with_reducible apply Blk.set5 | with_reducible apply Blk.set4 | with_reducible refine Blk.other ?_ (by first | omega | (simp; done) | (simp; omega)) _ | with_reducible refine Blk.drew ?_ | with_reducible refine Blk.alloc ?_ _ | with_reducible refine Blk.below ?_ (by assumption) (by first | omega | (simp; done) | (simp; omega)))), by (repeat (first | with_reducible exact Below.refl _ _ | with_reducible assumption | with_reducible refine Below.setCell ?_ (by first | omega | (simp; done) | (simp; omega)) _ | with_reducible refine Below.alloc ?_ (by first | omega | (simp; done) | (simp; omega)) _ | with_reducible refine Below.drew ?_ | with_reducible refine Below.trans ?_ (Below.mono (by assumption) (by first | omega | (simp; done) | (simp; omega)))))⟩
        case measure => simp [intOf]; omega
      · have hfin := Lib.hid (up_fail hj hinv.out hm)
        go_wp2_with fail
        refine (sMulZ _ _ _ _ _ _ _ _ _).mono ?_
        rintro e x1 ⟨rfl, hbx1⟩
        obtain ⟨hcx1, hfx1, hzx1⟩ := bcell hbx1
        try simp at hzx1
        have zx1_0 : w.heap.size < x1.heap.size := by omega
        have zx1_1 : w.heap.size + 1 < x1.heap.size := by omega
        go_wp2
        exact bodyPost_ret (v := .tuple #[.agg #[.int .i64 0, .int .i64 0, .int .i64 0, .int .i64 0], .bool false]) (by simp [results, Try.results171, go_sem, *]) rfl ⟨by rw [hfin.out], by (repeat (first | with_reducible exact Below.refl _ _ | with_reducible assumption | with_reducible refine Below.setCell ?_ (by first | omega | (simp; done) | (simp; omega)) _ | with_reducible refine Below.alloc ?_ (by first | omega | (simp; done) | (simp; omega)) _ | with_reducible refine Below.drew ?_ | with_reducible refine Below.trans ?_ (Below.mono (by assumption) (by first | omega | (simp; done) | (simp; omega)))))⟩
    · have hfin := Lib.hid (up_stop hj hinv.out)
      go_wp2
      exact bodyPost_ret (v := .tuple #[.agg #[.int .i64 p, .int .i64 q, .int .i64 r, .int .i64 s], .bool true]) (by simp [results, Try.results171, go_sem, *]) rfl ⟨by rw [hfin.out], by (repeat (first | with_reducible exact Below.refl _ _ | with_reducible assumption | with_reducible refine Below.setCell ?_ (by first | omega | (simp; done) | (simp; omega)) _ | with_reducible refine Below.alloc ?_ (by first | omega | (simp; done) | (simp; omega)) _ | with_reducible refine Below.drew ?_ | with_reducible refine Below.trans ?_ (Below.mono (by assumption) (by first | omega | (simp; done) | (simp; omega)))))⟩

set_option maxHeartbeats 8000000 in
theorem sAddD (a b c d k a' b' c' d' k' : Int) (w : World) :
    Calls Try.prog 122 #[.agg #[.int .i64 a, .int .i64 b, .int .i64 c, .int .i64 d, .int .i64 k], .agg #[.int .i64 a', .int .i64 b', .int .i64 c', .int .i64 d', .int .i64 k']] w fun e w' => e = .returned (.tuple #[Dv (addD ⟨⟨a, b, c, d⟩, k⟩ ⟨⟨a', b', c', d'⟩, k'⟩).1, .bool (addD ⟨⟨a, b, c, d⟩, k⟩ ⟨⟨a', b', c', d'⟩, k'⟩).2]) ∧ Below w.heap.size w w' := by
  by_cases hx : DO.ok ⟨⟨a, b, c, d⟩, k⟩ = true
  · by_cases hy : DO.ok ⟨⟨a', b', c', d'⟩, k'⟩ = true
    · have xe := ((DO.ok_iff _).1 hx).2.1
      have ye := ((DO.ok_iff _).1 hy).2.1
      dsimp only at xe ye
      obtain ⟨xe1, xe2⟩ := xe
      obtain ⟨ye1, ye2⟩ := ye
      by_cases hlt : k' < k
      · have hadd := addS_left hx hy hlt
        dsimp only at hadd
        generalize hA : up (k - k).toNat ⟨a, b, c, d⟩ = A
        generalize hB : up (k - k').toNat ⟨a', b', c', d'⟩ = B
        have GA := Lib.hid hA
        have GB := Lib.hid hB
        have HA := Lib.hid (show up (Int.toNat 0) ⟨a, b, c, d⟩ = A by rw [← hA, Int.sub_self])
        have HB := Lib.hid hB
        clear hA hB
        have hmax : (if k' < k then k else k') = k := if_pos hlt
        by_cases a1 : A.2 = true
        · by_cases b1 : B.2 = true
          · by_cases n1 : (addZ A.1 B.1).2 = true
            · have hfin := Lib.hid (hadd.trans (addS_yes (x := ⟨⟨a, b, c, d⟩, k⟩) (y := ⟨⟨a', b', c', d'⟩, k'⟩) GA.out GB.out a1 b1 n1))
              clear hadd
              go_enter Try.func122, Try.ntmps122
              go_wp2_with fail
              refine (sIsValidD _ _ _ _ _ _).mono ?_
              rintro e w1 ⟨rfl, hb1⟩
              obtain ⟨hc1, hf1, hz1⟩ := bcell hb1
              try simp at hz1
              have z1_0 : w.heap.size < w1.heap.size := by omega
              have z1_1 : w.heap.size + 1 < w1.heap.size := by omega
              have z1_2 : w.heap.size + 1 + 1 < w1.heap.size := by omega
              go_wp2_with fail
              refine (sIsValidD _ _ _ _ _ _).mono ?_
              rintro e w2 ⟨rfl, hb2⟩
              obtain ⟨hc2, hf2, hz2⟩ := bcell hb2
              try simp at hz2
              have z2_0 : w.heap.size < w2.heap.size := by omega
              have z2_1 : w.heap.size + 1 < w2.heap.size := by omega
              have z2_2 : w.heap.size + 1 + 1 < w2.heap.size := by omega
              go_wp2_with fail
              refine (sMax _ _ _).mono ?_
              rintro e _ ⟨rfl, rfl⟩
              rw [hmax]
              go_wp2_with fail
              refine (sUp _ _ _ _ _ (by omega) _).mono ?_
              rw [HA.out]
              rintro e w4 ⟨rfl, hb4⟩
              obtain ⟨hc4, hf4, hz4⟩ := bcell hb4
              try simp at hz4
              have z4_0 : w.heap.size < w4.heap.size := by omega
              have z4_1 : w.heap.size + 1 < w4.heap.size := by omega
              have z4_2 : w.heap.size + 1 + 1 < w4.heap.size := by omega
              go_wp2_with fail
              refine (sUp _ _ _ _ _ (by omega) _).mono ?_
              rw [HB.out]
              rintro e w5 ⟨rfl, hb5⟩
              obtain ⟨hc5, hf5, hz5⟩ := bcell hb5
              try simp at hz5
              have z5_0 : w.heap.size < w5.heap.size := by omega
              have z5_1 : w.heap.size + 1 < w5.heap.size := by omega
              have z5_2 : w.heap.size + 1 + 1 < w5.heap.size := by omega
              have z5_3 : w4.heap.size < w5.heap.size := by omega
              go_wp2_with fail
              refine (sAddZ _ _ _ _ _ _ _ _ _).mono ?_
              rintro e w6 ⟨rfl, hb6⟩
              obtain ⟨hc6, hf6, hz6⟩ := bcell hb6
              try simp at hz6
              have z6_0 : w.heap.size < w6.heap.size := by omega
              have z6_1 : w.heap.size + 1 < w6.heap.size := by omega
              have z6_2 : w.heap.size + 1 + 1 < w6.heap.size := by omega
              have z6_3 : w4.heap.size < w6.heap.size := by omega
              have z6_4 : w5.heap.size < w6.heap.size := by omega
              go_wp2_with fail
              refine (sNew _ _ _ _ _ _).mono ?_
              rintro e w7 ⟨rfl, hb7⟩
              obtain ⟨hc7, hf7, hz7⟩ := bcell hb7
              try simp at hz7
              have z7_0 : w.heap.size < w7.heap.size := by omega
              have z7_1 : w.heap.size + 1 < w7.heap.size := by omega
              have z7_2 : w.heap.size + 1 + 1 < w7.heap.size := by omega
              have z7_3 : w4.heap.size < w7.heap.size := by omega
              have z7_4 : w5.heap.size < w7.heap.size := by omega
              have z7_5 : w6.heap.size < w7.heap.size := by omega
              go_wp2
              exact bodyPost_ret (v := .tuple #[Dv (newD (addZ A.1 B.1).1 k).1, .bool (newD (addZ A.1 B.1).1 k).2]) (by simp [results, Try.results122, go_sem, *]) rfl ⟨by rw [hfin.out], by (repeat (first | with_reducible exact Below.refl _ _ | with_reducible assumption | with_reducible refine Below.setCell ?_ (by first | omega | (simp; done) | (simp; omega)) _ | with_reducible refine Below.alloc ?_ (by first | omega | (simp; done) | (simp; omega)) _ | with_reducible refine Below.drew ?_ | with_reducible refine Below.trans ?_ (Below.mono (by assumption) (by first | omega | (simp; done) | (simp; omega)))))⟩
            · have hfin := Lib.hid (hadd.trans (addS_no (x := ⟨⟨a, b, c, d⟩, k⟩) (y := ⟨⟨a', b', c', d'⟩, k'⟩) GA.out GB.out (by simp [n1])))
              clear hadd
              go_enter Try.func122, Try.ntmps122
              go_wp2_with fail
              refine (sIsValidD _ _ _ _ _ _).mono ?_
              rintro e w1 ⟨rfl, hb1⟩
              obtain ⟨hc1, hf1, hz1⟩ := bcell hb1
              try simp at hz1
              have z1_0 : w.heap.size < w1.heap.size := by omega
              have z1_1 : w.heap.size + 1 < w1.heap.size := by omega
              have z1_2 : w.heap.size + 1 + 1 < w1.heap.size := by omega
              go_wp2_with fail
              refine (sIsValidD _ _ _ _ _ _).mono ?_
              rintro e w2 ⟨rfl, hb2⟩
              obtain ⟨hc2, hf2, hz2⟩ := bcell hb2
              try simp at hz2
              have z2_0 : w.heap.size < w2.heap.size := by omega
              have z2_1 : w.heap.size + 1 < w2.heap.size := by omega
              have z2_2 : w.heap.size + 1 + 1 < w2.heap.size := by omega
              go_wp2_with fail
              refine (sMax _ _ _).mono ?_
              rintro e _ ⟨rfl, rfl⟩
              rw [hmax]
              go_wp2_with fail
              refine (sUp _ _ _ _ _ (by omega) _).mono ?_
              rw [HA.out]
              rintro e w4 ⟨rfl, hb4⟩
              obtain ⟨hc4, hf4, hz4⟩ := bcell hb4
              try simp at hz4
              have z4_0 : w.heap.size < w4.heap.size := by omega
              have z4_1 : w.heap.size + 1 < w4.heap.size := by omega
              have z4_2 : w.heap.size + 1 + 1 < w4.heap.size := by omega
              go_wp2_with fail
              refine (sUp _ _ _ _ _ (by omega) _).mono ?_
              rw [HB.out]
              rintro e w5 ⟨rfl, hb5⟩
              obtain ⟨hc5, hf5, hz5⟩ := bcell hb5
              try simp at hz5
              have z5_0 : w.heap.size < w5.heap.size := by omega
              have z5_1 : w.heap.size + 1 < w5.heap.size := by omega
              have z5_2 : w.heap.size + 1 + 1 < w5.heap.size := by omega
              have z5_3 : w4.heap.size < w5.heap.size := by omega
              go_wp2_with fail
              refine (sAddZ _ _ _ _ _ _ _ _ _).mono ?_
              rintro e w6 ⟨rfl, hb6⟩
              obtain ⟨hc6, hf6, hz6⟩ := bcell hb6
              try simp at hz6
              have z6_0 : w.heap.size < w6.heap.size := by omega
              have z6_1 : w.heap.size + 1 < w6.heap.size := by omega
              have z6_2 : w.heap.size + 1 + 1 < w6.heap.size := by omega
              have z6_3 : w4.heap.size < w6.heap.size := by omega
              have z6_4 : w5.heap.size < w6.heap.size := by omega
              go_wp2
              exact bodyPost_ret (v := .tuple #[.agg #[.int .i64 0, .int .i64 0, .int .i64 0, .int .i64 0, .int .i64 0], .bool false]) (by simp [results, Try.results122, go_sem, *]) rfl ⟨by rw [hfin.out], by (repeat (first | with_reducible exact Below.refl _ _ | with_reducible assumption | with_reducible refine Below.setCell ?_ (by first | omega | (simp; done) | (simp; omega)) _ | with_reducible refine Below.alloc ?_ (by first | omega | (simp; done) | (simp; omega)) _ | with_reducible refine Below.drew ?_ | with_reducible refine Below.trans ?_ (Below.mono (by assumption) (by first | omega | (simp; done) | (simp; omega)))))⟩
          · have hfin := Lib.hid (hadd.trans (addS_no (x := ⟨⟨a, b, c, d⟩, k⟩) (y := ⟨⟨a', b', c', d'⟩, k'⟩) GA.out GB.out (by simp [b1])))
            clear hadd
            go_enter Try.func122, Try.ntmps122
            go_wp2_with fail
            refine (sIsValidD _ _ _ _ _ _).mono ?_
            rintro e w1 ⟨rfl, hb1⟩
            obtain ⟨hc1, hf1, hz1⟩ := bcell hb1
            try simp at hz1
            have z1_0 : w.heap.size < w1.heap.size := by omega
            have z1_1 : w.heap.size + 1 < w1.heap.size := by omega
            have z1_2 : w.heap.size + 1 + 1 < w1.heap.size := by omega
            go_wp2_with fail
            refine (sIsValidD _ _ _ _ _ _).mono ?_
            rintro e w2 ⟨rfl, hb2⟩
            obtain ⟨hc2, hf2, hz2⟩ := bcell hb2
            try simp at hz2
            have z2_0 : w.heap.size < w2.heap.size := by omega
            have z2_1 : w.heap.size + 1 < w2.heap.size := by omega
            have z2_2 : w.heap.size + 1 + 1 < w2.heap.size := by omega
            go_wp2_with fail
            refine (sMax _ _ _).mono ?_
            rintro e _ ⟨rfl, rfl⟩
            rw [hmax]
            go_wp2_with fail
            refine (sUp _ _ _ _ _ (by omega) _).mono ?_
            rw [HA.out]
            rintro e w4 ⟨rfl, hb4⟩
            obtain ⟨hc4, hf4, hz4⟩ := bcell hb4
            try simp at hz4
            have z4_0 : w.heap.size < w4.heap.size := by omega
            have z4_1 : w.heap.size + 1 < w4.heap.size := by omega
            have z4_2 : w.heap.size + 1 + 1 < w4.heap.size := by omega
            go_wp2_with fail
            refine (sUp _ _ _ _ _ (by omega) _).mono ?_
            rw [HB.out]
            rintro e w5 ⟨rfl, hb5⟩
            obtain ⟨hc5, hf5, hz5⟩ := bcell hb5
            try simp at hz5
            have z5_0 : w.heap.size < w5.heap.size := by omega
            have z5_1 : w.heap.size + 1 < w5.heap.size := by omega
            have z5_2 : w.heap.size + 1 + 1 < w5.heap.size := by omega
            have z5_3 : w4.heap.size < w5.heap.size := by omega
            go_wp2_with fail
            refine (sAddZ _ _ _ _ _ _ _ _ _).mono ?_
            rintro e w6 ⟨rfl, hb6⟩
            obtain ⟨hc6, hf6, hz6⟩ := bcell hb6
            try simp at hz6
            have z6_0 : w.heap.size < w6.heap.size := by omega
            have z6_1 : w.heap.size + 1 < w6.heap.size := by omega
            have z6_2 : w.heap.size + 1 + 1 < w6.heap.size := by omega
            have z6_3 : w4.heap.size < w6.heap.size := by omega
            have z6_4 : w5.heap.size < w6.heap.size := by omega
            go_wp2
            exact bodyPost_ret (v := .tuple #[.agg #[.int .i64 0, .int .i64 0, .int .i64 0, .int .i64 0, .int .i64 0], .bool false]) (by simp [results, Try.results122, go_sem, *]) rfl ⟨by rw [hfin.out], by (repeat (first | with_reducible exact Below.refl _ _ | with_reducible assumption | with_reducible refine Below.setCell ?_ (by first | omega | (simp; done) | (simp; omega)) _ | with_reducible refine Below.alloc ?_ (by first | omega | (simp; done) | (simp; omega)) _ | with_reducible refine Below.drew ?_ | with_reducible refine Below.trans ?_ (Below.mono (by assumption) (by first | omega | (simp; done) | (simp; omega)))))⟩
        · have hfin := Lib.hid (hadd.trans (addS_no (x := ⟨⟨a, b, c, d⟩, k⟩) (y := ⟨⟨a', b', c', d'⟩, k'⟩) GA.out GB.out (by simp [a1])))
          clear hadd
          go_enter Try.func122, Try.ntmps122
          go_wp2_with fail
          refine (sIsValidD _ _ _ _ _ _).mono ?_
          rintro e w1 ⟨rfl, hb1⟩
          obtain ⟨hc1, hf1, hz1⟩ := bcell hb1
          try simp at hz1
          have z1_0 : w.heap.size < w1.heap.size := by omega
          have z1_1 : w.heap.size + 1 < w1.heap.size := by omega
          have z1_2 : w.heap.size + 1 + 1 < w1.heap.size := by omega
          go_wp2_with fail
          refine (sIsValidD _ _ _ _ _ _).mono ?_
          rintro e w2 ⟨rfl, hb2⟩
          obtain ⟨hc2, hf2, hz2⟩ := bcell hb2
          try simp at hz2
          have z2_0 : w.heap.size < w2.heap.size := by omega
          have z2_1 : w.heap.size + 1 < w2.heap.size := by omega
          have z2_2 : w.heap.size + 1 + 1 < w2.heap.size := by omega
          go_wp2_with fail
          refine (sMax _ _ _).mono ?_
          rintro e _ ⟨rfl, rfl⟩
          rw [hmax]
          go_wp2_with fail
          refine (sUp _ _ _ _ _ (by omega) _).mono ?_
          rw [HA.out]
          rintro e w4 ⟨rfl, hb4⟩
          obtain ⟨hc4, hf4, hz4⟩ := bcell hb4
          try simp at hz4
          have z4_0 : w.heap.size < w4.heap.size := by omega
          have z4_1 : w.heap.size + 1 < w4.heap.size := by omega
          have z4_2 : w.heap.size + 1 + 1 < w4.heap.size := by omega
          go_wp2_with fail
          refine (sUp _ _ _ _ _ (by omega) _).mono ?_
          rw [HB.out]
          rintro e w5 ⟨rfl, hb5⟩
          obtain ⟨hc5, hf5, hz5⟩ := bcell hb5
          try simp at hz5
          have z5_0 : w.heap.size < w5.heap.size := by omega
          have z5_1 : w.heap.size + 1 < w5.heap.size := by omega
          have z5_2 : w.heap.size + 1 + 1 < w5.heap.size := by omega
          have z5_3 : w4.heap.size < w5.heap.size := by omega
          go_wp2_with fail
          refine (sAddZ _ _ _ _ _ _ _ _ _).mono ?_
          rintro e w6 ⟨rfl, hb6⟩
          obtain ⟨hc6, hf6, hz6⟩ := bcell hb6
          try simp at hz6
          have z6_0 : w.heap.size < w6.heap.size := by omega
          have z6_1 : w.heap.size + 1 < w6.heap.size := by omega
          have z6_2 : w.heap.size + 1 + 1 < w6.heap.size := by omega
          have z6_3 : w4.heap.size < w6.heap.size := by omega
          have z6_4 : w5.heap.size < w6.heap.size := by omega
          go_wp2
          exact bodyPost_ret (v := .tuple #[.agg #[.int .i64 0, .int .i64 0, .int .i64 0, .int .i64 0, .int .i64 0], .bool false]) (by simp [results, Try.results122, go_sem, *]) rfl ⟨by rw [hfin.out], by (repeat (first | with_reducible exact Below.refl _ _ | with_reducible assumption | with_reducible refine Below.setCell ?_ (by first | omega | (simp; done) | (simp; omega)) _ | with_reducible refine Below.alloc ?_ (by first | omega | (simp; done) | (simp; omega)) _ | with_reducible refine Below.drew ?_ | with_reducible refine Below.trans ?_ (Below.mono (by assumption) (by first | omega | (simp; done) | (simp; omega)))))⟩
      · have hadd := addS_right hx hy hlt
        dsimp only at hadd
        generalize hA : up (k' - k).toNat ⟨a, b, c, d⟩ = A
        generalize hB : up (k' - k').toNat ⟨a', b', c', d'⟩ = B
        have GA := Lib.hid hA
        have GB := Lib.hid hB
        have HA := Lib.hid hA
        have HB := Lib.hid (show up (Int.toNat 0) ⟨a', b', c', d'⟩ = B by rw [← hB, Int.sub_self])
        clear hA hB
        have hmax : (if k' < k then k else k') = k' := if_neg hlt
        by_cases a1 : A.2 = true
        · by_cases b1 : B.2 = true
          · by_cases n1 : (addZ A.1 B.1).2 = true
            · have hfin := Lib.hid (hadd.trans (addS_yes (x := ⟨⟨a, b, c, d⟩, k⟩) (y := ⟨⟨a', b', c', d'⟩, k'⟩) GA.out GB.out a1 b1 n1))
              clear hadd
              go_enter Try.func122, Try.ntmps122
              go_wp2_with fail
              refine (sIsValidD _ _ _ _ _ _).mono ?_
              rintro e w1 ⟨rfl, hb1⟩
              obtain ⟨hc1, hf1, hz1⟩ := bcell hb1
              try simp at hz1
              have z1_0 : w.heap.size < w1.heap.size := by omega
              have z1_1 : w.heap.size + 1 < w1.heap.size := by omega
              have z1_2 : w.heap.size + 1 + 1 < w1.heap.size := by omega
              go_wp2_with fail
              refine (sIsValidD _ _ _ _ _ _).mono ?_
              rintro e w2 ⟨rfl, hb2⟩
              obtain ⟨hc2, hf2, hz2⟩ := bcell hb2
              try simp at hz2
              have z2_0 : w.heap.size < w2.heap.size := by omega
              have z2_1 : w.heap.size + 1 < w2.heap.size := by omega
              have z2_2 : w.heap.size + 1 + 1 < w2.heap.size := by omega
              go_wp2_with fail
              refine (sMax _ _ _).mono ?_
              rintro e _ ⟨rfl, rfl⟩
              rw [hmax]
              go_wp2_with fail
              refine (sUp _ _ _ _ _ (by omega) _).mono ?_
              rw [HA.out]
              rintro e w4 ⟨rfl, hb4⟩
              obtain ⟨hc4, hf4, hz4⟩ := bcell hb4
              try simp at hz4
              have z4_0 : w.heap.size < w4.heap.size := by omega
              have z4_1 : w.heap.size + 1 < w4.heap.size := by omega
              have z4_2 : w.heap.size + 1 + 1 < w4.heap.size := by omega
              go_wp2_with fail
              refine (sUp _ _ _ _ _ (by omega) _).mono ?_
              rw [HB.out]
              rintro e w5 ⟨rfl, hb5⟩
              obtain ⟨hc5, hf5, hz5⟩ := bcell hb5
              try simp at hz5
              have z5_0 : w.heap.size < w5.heap.size := by omega
              have z5_1 : w.heap.size + 1 < w5.heap.size := by omega
              have z5_2 : w.heap.size + 1 + 1 < w5.heap.size := by omega
              have z5_3 : w4.heap.size < w5.heap.size := by omega
              go_wp2_with fail
              refine (sAddZ _ _ _ _ _ _ _ _ _).mono ?_
              rintro e w6 ⟨rfl, hb6⟩
              obtain ⟨hc6, hf6, hz6⟩ := bcell hb6
              try simp at hz6
              have z6_0 : w.heap.size < w6.heap.size := by omega
              have z6_1 : w.heap.size + 1 < w6.heap.size := by omega
              have z6_2 : w.heap.size + 1 + 1 < w6.heap.size := by omega
              have z6_3 : w4.heap.size < w6.heap.size := by omega
              have z6_4 : w5.heap.size < w6.heap.size := by omega
              go_wp2_with fail
              refine (sNew _ _ _ _ _ _).mono ?_
              rintro e w7 ⟨rfl, hb7⟩
              obtain ⟨hc7, hf7, hz7⟩ := bcell hb7
              try simp at hz7
              have z7_0 : w.heap.size < w7.heap.size := by omega
              have z7_1 : w.heap.size + 1 < w7.heap.size := by omega
              have z7_2 : w.heap.size + 1 + 1 < w7.heap.size := by omega
              have z7_3 : w4.heap.size < w7.heap.size := by omega
              have z7_4 : w5.heap.size < w7.heap.size := by omega
              have z7_5 : w6.heap.size < w7.heap.size := by omega
              go_wp2
              exact bodyPost_ret (v := .tuple #[Dv (newD (addZ A.1 B.1).1 k').1, .bool (newD (addZ A.1 B.1).1 k').2]) (by simp [results, Try.results122, go_sem, *]) rfl ⟨by rw [hfin.out], by (repeat (first | with_reducible exact Below.refl _ _ | with_reducible assumption | with_reducible refine Below.setCell ?_ (by first | omega | (simp; done) | (simp; omega)) _ | with_reducible refine Below.alloc ?_ (by first | omega | (simp; done) | (simp; omega)) _ | with_reducible refine Below.drew ?_ | with_reducible refine Below.trans ?_ (Below.mono (by assumption) (by first | omega | (simp; done) | (simp; omega)))))⟩
            · have hfin := Lib.hid (hadd.trans (addS_no (x := ⟨⟨a, b, c, d⟩, k⟩) (y := ⟨⟨a', b', c', d'⟩, k'⟩) GA.out GB.out (by simp [n1])))
              clear hadd
              go_enter Try.func122, Try.ntmps122
              go_wp2_with fail
              refine (sIsValidD _ _ _ _ _ _).mono ?_
              rintro e w1 ⟨rfl, hb1⟩
              obtain ⟨hc1, hf1, hz1⟩ := bcell hb1
              try simp at hz1
              have z1_0 : w.heap.size < w1.heap.size := by omega
              have z1_1 : w.heap.size + 1 < w1.heap.size := by omega
              have z1_2 : w.heap.size + 1 + 1 < w1.heap.size := by omega
              go_wp2_with fail
              refine (sIsValidD _ _ _ _ _ _).mono ?_
              rintro e w2 ⟨rfl, hb2⟩
              obtain ⟨hc2, hf2, hz2⟩ := bcell hb2
              try simp at hz2
              have z2_0 : w.heap.size < w2.heap.size := by omega
              have z2_1 : w.heap.size + 1 < w2.heap.size := by omega
              have z2_2 : w.heap.size + 1 + 1 < w2.heap.size := by omega
              go_wp2_with fail
              refine (sMax _ _ _).mono ?_
              rintro e _ ⟨rfl, rfl⟩
              rw [hmax]
              go_wp2_with fail
              refine (sUp _ _ _ _ _ (by omega) _).mono ?_
              rw [HA.out]
              rintro e w4 ⟨rfl, hb4⟩
              obtain ⟨hc4, hf4, hz4⟩ := bcell hb4
              try simp at hz4
              have z4_0 : w.heap.size < w4.heap.size := by omega
              have z4_1 : w.heap.size + 1 < w4.heap.size := by omega
              have z4_2 : w.heap.size + 1 + 1 < w4.heap.size := by omega
              go_wp2_with fail
              refine (sUp _ _ _ _ _ (by omega) _).mono ?_
              rw [HB.out]
              rintro e w5 ⟨rfl, hb5⟩
              obtain ⟨hc5, hf5, hz5⟩ := bcell hb5
              try simp at hz5
              have z5_0 : w.heap.size < w5.heap.size := by omega
              have z5_1 : w.heap.size + 1 < w5.heap.size := by omega
              have z5_2 : w.heap.size + 1 + 1 < w5.heap.size := by omega
              have z5_3 : w4.heap.size < w5.heap.size := by omega
              go_wp2_with fail
              refine (sAddZ _ _ _ _ _ _ _ _ _).mono ?_
              rintro e w6 ⟨rfl, hb6⟩
              obtain ⟨hc6, hf6, hz6⟩ := bcell hb6
              try simp at hz6
              have z6_0 : w.heap.size < w6.heap.size := by omega
              have z6_1 : w.heap.size + 1 < w6.heap.size := by omega
              have z6_2 : w.heap.size + 1 + 1 < w6.heap.size := by omega
              have z6_3 : w4.heap.size < w6.heap.size := by omega
              have z6_4 : w5.heap.size < w6.heap.size := by omega
              go_wp2
              exact bodyPost_ret (v := .tuple #[.agg #[.int .i64 0, .int .i64 0, .int .i64 0, .int .i64 0, .int .i64 0], .bool false]) (by simp [results, Try.results122, go_sem, *]) rfl ⟨by rw [hfin.out], by (repeat (first | with_reducible exact Below.refl _ _ | with_reducible assumption | with_reducible refine Below.setCell ?_ (by first | omega | (simp; done) | (simp; omega)) _ | with_reducible refine Below.alloc ?_ (by first | omega | (simp; done) | (simp; omega)) _ | with_reducible refine Below.drew ?_ | with_reducible refine Below.trans ?_ (Below.mono (by assumption) (by first | omega | (simp; done) | (simp; omega)))))⟩
          · have hfin := Lib.hid (hadd.trans (addS_no (x := ⟨⟨a, b, c, d⟩, k⟩) (y := ⟨⟨a', b', c', d'⟩, k'⟩) GA.out GB.out (by simp [b1])))
            clear hadd
            go_enter Try.func122, Try.ntmps122
            go_wp2_with fail
            refine (sIsValidD _ _ _ _ _ _).mono ?_
            rintro e w1 ⟨rfl, hb1⟩
            obtain ⟨hc1, hf1, hz1⟩ := bcell hb1
            try simp at hz1
            have z1_0 : w.heap.size < w1.heap.size := by omega
            have z1_1 : w.heap.size + 1 < w1.heap.size := by omega
            have z1_2 : w.heap.size + 1 + 1 < w1.heap.size := by omega
            go_wp2_with fail
            refine (sIsValidD _ _ _ _ _ _).mono ?_
            rintro e w2 ⟨rfl, hb2⟩
            obtain ⟨hc2, hf2, hz2⟩ := bcell hb2
            try simp at hz2
            have z2_0 : w.heap.size < w2.heap.size := by omega
            have z2_1 : w.heap.size + 1 < w2.heap.size := by omega
            have z2_2 : w.heap.size + 1 + 1 < w2.heap.size := by omega
            go_wp2_with fail
            refine (sMax _ _ _).mono ?_
            rintro e _ ⟨rfl, rfl⟩
            rw [hmax]
            go_wp2_with fail
            refine (sUp _ _ _ _ _ (by omega) _).mono ?_
            rw [HA.out]
            rintro e w4 ⟨rfl, hb4⟩
            obtain ⟨hc4, hf4, hz4⟩ := bcell hb4
            try simp at hz4
            have z4_0 : w.heap.size < w4.heap.size := by omega
            have z4_1 : w.heap.size + 1 < w4.heap.size := by omega
            have z4_2 : w.heap.size + 1 + 1 < w4.heap.size := by omega
            go_wp2_with fail
            refine (sUp _ _ _ _ _ (by omega) _).mono ?_
            rw [HB.out]
            rintro e w5 ⟨rfl, hb5⟩
            obtain ⟨hc5, hf5, hz5⟩ := bcell hb5
            try simp at hz5
            have z5_0 : w.heap.size < w5.heap.size := by omega
            have z5_1 : w.heap.size + 1 < w5.heap.size := by omega
            have z5_2 : w.heap.size + 1 + 1 < w5.heap.size := by omega
            have z5_3 : w4.heap.size < w5.heap.size := by omega
            go_wp2_with fail
            refine (sAddZ _ _ _ _ _ _ _ _ _).mono ?_
            rintro e w6 ⟨rfl, hb6⟩
            obtain ⟨hc6, hf6, hz6⟩ := bcell hb6
            try simp at hz6
            have z6_0 : w.heap.size < w6.heap.size := by omega
            have z6_1 : w.heap.size + 1 < w6.heap.size := by omega
            have z6_2 : w.heap.size + 1 + 1 < w6.heap.size := by omega
            have z6_3 : w4.heap.size < w6.heap.size := by omega
            have z6_4 : w5.heap.size < w6.heap.size := by omega
            go_wp2
            exact bodyPost_ret (v := .tuple #[.agg #[.int .i64 0, .int .i64 0, .int .i64 0, .int .i64 0, .int .i64 0], .bool false]) (by simp [results, Try.results122, go_sem, *]) rfl ⟨by rw [hfin.out], by (repeat (first | with_reducible exact Below.refl _ _ | with_reducible assumption | with_reducible refine Below.setCell ?_ (by first | omega | (simp; done) | (simp; omega)) _ | with_reducible refine Below.alloc ?_ (by first | omega | (simp; done) | (simp; omega)) _ | with_reducible refine Below.drew ?_ | with_reducible refine Below.trans ?_ (Below.mono (by assumption) (by first | omega | (simp; done) | (simp; omega)))))⟩
        · have hfin := Lib.hid (hadd.trans (addS_no (x := ⟨⟨a, b, c, d⟩, k⟩) (y := ⟨⟨a', b', c', d'⟩, k'⟩) GA.out GB.out (by simp [a1])))
          clear hadd
          go_enter Try.func122, Try.ntmps122
          go_wp2_with fail
          refine (sIsValidD _ _ _ _ _ _).mono ?_
          rintro e w1 ⟨rfl, hb1⟩
          obtain ⟨hc1, hf1, hz1⟩ := bcell hb1
          try simp at hz1
          have z1_0 : w.heap.size < w1.heap.size := by omega
          have z1_1 : w.heap.size + 1 < w1.heap.size := by omega
          have z1_2 : w.heap.size + 1 + 1 < w1.heap.size := by omega
          go_wp2_with fail
          refine (sIsValidD _ _ _ _ _ _).mono ?_
          rintro e w2 ⟨rfl, hb2⟩
          obtain ⟨hc2, hf2, hz2⟩ := bcell hb2
          try simp at hz2
          have z2_0 : w.heap.size < w2.heap.size := by omega
          have z2_1 : w.heap.size + 1 < w2.heap.size := by omega
          have z2_2 : w.heap.size + 1 + 1 < w2.heap.size := by omega
          go_wp2_with fail
          refine (sMax _ _ _).mono ?_
          rintro e _ ⟨rfl, rfl⟩
          rw [hmax]
          go_wp2_with fail
          refine (sUp _ _ _ _ _ (by omega) _).mono ?_
          rw [HA.out]
          rintro e w4 ⟨rfl, hb4⟩
          obtain ⟨hc4, hf4, hz4⟩ := bcell hb4
          try simp at hz4
          have z4_0 : w.heap.size < w4.heap.size := by omega
          have z4_1 : w.heap.size + 1 < w4.heap.size := by omega
          have z4_2 : w.heap.size + 1 + 1 < w4.heap.size := by omega
          go_wp2_with fail
          refine (sUp _ _ _ _ _ (by omega) _).mono ?_
          rw [HB.out]
          rintro e w5 ⟨rfl, hb5⟩
          obtain ⟨hc5, hf5, hz5⟩ := bcell hb5
          try simp at hz5
          have z5_0 : w.heap.size < w5.heap.size := by omega
          have z5_1 : w.heap.size + 1 < w5.heap.size := by omega
          have z5_2 : w.heap.size + 1 + 1 < w5.heap.size := by omega
          have z5_3 : w4.heap.size < w5.heap.size := by omega
          go_wp2_with fail
          refine (sAddZ _ _ _ _ _ _ _ _ _).mono ?_
          rintro e w6 ⟨rfl, hb6⟩
          obtain ⟨hc6, hf6, hz6⟩ := bcell hb6
          try simp at hz6
          have z6_0 : w.heap.size < w6.heap.size := by omega
          have z6_1 : w.heap.size + 1 < w6.heap.size := by omega
          have z6_2 : w.heap.size + 1 + 1 < w6.heap.size := by omega
          have z6_3 : w4.heap.size < w6.heap.size := by omega
          have z6_4 : w5.heap.size < w6.heap.size := by omega
          go_wp2
          exact bodyPost_ret (v := .tuple #[.agg #[.int .i64 0, .int .i64 0, .int .i64 0, .int .i64 0, .int .i64 0], .bool false]) (by simp [results, Try.results122, go_sem, *]) rfl ⟨by rw [hfin.out], by (repeat (first | with_reducible exact Below.refl _ _ | with_reducible assumption | with_reducible refine Below.setCell ?_ (by first | omega | (simp; done) | (simp; omega)) _ | with_reducible refine Below.alloc ?_ (by first | omega | (simp; done) | (simp; omega)) _ | with_reducible refine Below.drew ?_ | with_reducible refine Below.trans ?_ (Below.mono (by assumption) (by first | omega | (simp; done) | (simp; omega)))))⟩
    · go_enter Try.func122, Try.ntmps122
      go_wp2_with fail
      refine (sIsValidD _ _ _ _ _ _).mono ?_
      rintro e w1 ⟨rfl, hb1⟩
      obtain ⟨hc1, hf1, hz1⟩ := bcell hb1
      try simp at hz1
      have z1_0 : w.heap.size < w1.heap.size := by omega
      have z1_1 : w.heap.size + 1 < w1.heap.size := by omega
      have z1_2 : w.heap.size + 1 + 1 < w1.heap.size := by omega
      go_wp2_with fail
      refine (sIsValidD _ _ _ _ _ _).mono ?_
      rintro e w2 ⟨rfl, hb2⟩
      obtain ⟨hc2, hf2, hz2⟩ := bcell hb2
      try simp at hz2
      have z2_0 : w.heap.size < w2.heap.size := by omega
      have z2_1 : w.heap.size + 1 < w2.heap.size := by omega
      have z2_2 : w.heap.size + 1 + 1 < w2.heap.size := by omega
      go_wp2
      exact bodyPost_ret (v := .tuple #[.agg #[.int .i64 0, .int .i64 0, .int .i64 0, .int .i64 0, .int .i64 0], .bool false]) (by simp [results, Try.results122, go_sem, *]) rfl ⟨by simp [addD, hx, hy], by (repeat (first | with_reducible exact Below.refl _ _ | with_reducible assumption | with_reducible refine Below.setCell ?_ (by first | omega | (simp; done) | (simp; omega)) _ | with_reducible refine Below.alloc ?_ (by first | omega | (simp; done) | (simp; omega)) _ | with_reducible refine Below.drew ?_ | with_reducible refine Below.trans ?_ (Below.mono (by assumption) (by first | omega | (simp; done) | (simp; omega)))))⟩
  · go_enter Try.func122, Try.ntmps122
    go_wp2_with fail
    refine (sIsValidD _ _ _ _ _ _).mono ?_
    rintro e w1 ⟨rfl, hb1⟩
    obtain ⟨hc1, hf1, hz1⟩ := bcell hb1
    try simp at hz1
    have z1_0 : w.heap.size < w1.heap.size := by omega
    have z1_1 : w.heap.size + 1 < w1.heap.size := by omega
    have z1_2 : w.heap.size + 1 + 1 < w1.heap.size := by omega
    go_wp2
    exact bodyPost_ret (v := .tuple #[.agg #[.int .i64 0, .int .i64 0, .int .i64 0, .int .i64 0, .int .i64 0], .bool false]) (by simp [results, Try.results122, go_sem, *]) rfl ⟨by simp [addD, hx], by (repeat (first | with_reducible exact Below.refl _ _ | with_reducible assumption | with_reducible refine Below.setCell ?_ (by first | omega | (simp; done) | (simp; omega)) _ | with_reducible refine Below.alloc ?_ (by first | omega | (simp; done) | (simp; omega)) _ | with_reducible refine Below.drew ?_ | with_reducible refine Below.trans ?_ (Below.mono (by assumption) (by first | omega | (simp; done) | (simp; omega)))))⟩
end Go.Proofs.Yteckhaafdojoeaa

/-! S: States in memory: what it means that a slice value reads as a list of numbers, and the walks that only look. -/
namespace Go.Proofs.Yteckhaafdojoeaa
open Go.RowKit

/-- The five cells of a number at b, o. -/
def DAt (w : World) (b o : Nat) (x : DO) : Prop :=
  w.cell? ⟨b, o, none⟩ = some (.int .i64 x.n.a) ∧ w.cell? ⟨b, o + 1, none⟩ = some (.int .i64 x.n.b) ∧ w.cell? ⟨b, o + 2, none⟩ = some (.int .i64 x.n.c) ∧ w.cell? ⟨b, o + 3, none⟩ = some (.int .i64 x.n.d) ∧ w.cell? ⟨b, o + 4, none⟩ = some (.int .i64 x.e)
/-- The slice (ao, n) reads as l. -/
def StR (w : World) (ao : Option Addr) (l : List DO) : Prop :=
  ∀ i (h : i < l.length), ∃ b o, ao = some ⟨b, o, none⟩ ∧ b < w.heap.size ∧ DAt w b (o + i * 5) l[i]

theorem DAt.below {B : Nat} {w w' : World} {b o : Nat} {x : DO} (h : DAt w b o x) (hb : Below B w w') (hB : b < B) : DAt w' b o x := by
  obtain ⟨h0, h1, h2, h3, h4⟩ := h
  have e : ∀ o, w'.cell? ⟨b, o, none⟩ = w.cell? ⟨b, o, none⟩ := fun o => hb.cell (p := ⟨b, o, none⟩) hB
  exact ⟨by rw [e, h0], by rw [e, h1], by rw [e, h2], by rw [e, h3], by rw [e, h4]⟩
theorem StR.below {w w' : World} {ao : Option Addr} {l : List DO} (h : StR w ao l) (hb : Below w.heap.size w w') : StR w' ao l := fun i hi => by
  obtain ⟨b, o, h1, h2, h3⟩ := h i hi
  exact ⟨b, o, h1, Nat.lt_of_lt_of_le h2 hb.size, h3.below hb h2⟩

/-- The number of qubits of a state with n amplitudes; 0 where there is none. -/
def qc (n : Nat) : Nat := if n = 2 then 1 else if n = 4 then 2 else if n = 8 then 3 else if n = 16 then 4 else 0
def okS (l : List DO) : Bool := qc l.length != 0 && l.all DO.ok

theorem qc_of {n : Nat} (h2 : ¬ n = 2) (h4 : ¬ n = 4) (h8 : ¬ n = 8) (h16 : ¬ n = 16) : qc n = 0 := by simp [qc, *]

theorem all_step {l : List DO} {j : Nat} (hj : ∀ i (hi : i < l.length), i < j → l[i].ok = true) {hl : j < l.length} (hx : l[j].ok = true) : ∀ i (hi : i < l.length), i < j + 1 → l[i].ok = true := fun i hi hij => by
  by_cases e : i = j
  · subst e; exact hx
  · exact hj i hi (by omega)
theorem okS_no {l : List DO} {j : Nat} (hl : j < l.length) (hx : ¬ l[j].ok = true) : okS l = false := by
  rw [okS, Bool.and_eq_false_iff]
  right
  rw [List.all_eq_false]
  exact ⟨l[j], List.getElem_mem _, hx⟩
theorem okS_yes {l : List DO} (hq : ¬ qc l.length = 0) (h : ∀ i (hi : i < l.length), l[i].ok = true) : okS l = true := by
  rw [okS, Bool.and_eq_true]
  refine ⟨by simpa using hq, ?_⟩
  rw [List.all_eq_true]
  intro x hx
  obtain ⟨i, hi, rfl⟩ := List.getElem_of_mem hx
  exact h i hi
theorem iQubitCount (ao : Option Addr) (n cap : Nat) (hn : n ≤ 9223372036854775807) (w : World) :
    Calls Try.prog 106 #[.slice ao n cap] w fun e w' => e = .returned (.int .i64 (qc n)) ∧ w = w' := by
  by_cases h2 : n = 2
  · subst h2
    go_enter Try.func106, Try.ntmps106
    go_wp2
    refine wp_loop_rounds 6 ?_
    iterate 6 (try (rw [rounds_succ]; go_wp2))
    go_ret
    exact ⟨rfl, rfl⟩
  · skip
    by_cases h4 : n = 4
    · subst h4
      go_enter Try.func106, Try.ntmps106
      go_wp2
      refine wp_loop_rounds 6 ?_
      iterate 6 (try (rw [rounds_succ]; go_wp2))
      go_ret
      exact ⟨rfl, rfl⟩
    · skip
      by_cases h8 : n = 8
      · subst h8
        go_enter Try.func106, Try.ntmps106
        go_wp2
        refine wp_loop_rounds 6 ?_
        iterate 6 (try (rw [rounds_succ]; go_wp2))
        go_ret
        exact ⟨rfl, rfl⟩
      · skip
        by_cases h16 : n = 16
        · subst h16
          go_enter Try.func106, Try.ntmps106
          go_wp2
          refine wp_loop_rounds 6 ?_
          iterate 6 (try (rw [rounds_succ]; go_wp2))
          go_ret
          exact ⟨rfl, rfl⟩
        · skip
          have hz := qc_of h2 h4 h8 h16
          have g2 : ((n : Int) == 2) = false := by rw [beq_eq_false_iff_ne]; omega
          have g4 : ((n : Int) == 4) = false := by rw [beq_eq_false_iff_ne]; omega
          have g8 : ((n : Int) == 8) = false := by rw [beq_eq_false_iff_ne]; omega
          have g16 : ((n : Int) == 16) = false := by rw [beq_eq_false_iff_ne]; omega
          rw [hz]
          go_enter Try.func106, Try.ntmps106
          go_wp2
          refine wp_loop_rounds 6 ?_
          iterate 6 (try (rw [rounds_succ]; go_wp2))
          go_ret
          exact ⟨rfl, rfl⟩

set_option maxHeartbeats 2000000 in
theorem iIsValidState (ao : Option Addr) (l : List DO) (cap : Nat) (hn : l.length ≤ 1000000000) (w : World) (h : StR w ao l) :
    Calls Try.prog 124 #[.slice ao l.length cap] w fun e w' => e = .returned (.bool (okS l)) ∧ Below w.heap.size w w' := by
  by_cases hq : qc l.length = 0
  · have hq' : ((qc l.length : Int) == 0) = true := by simp [hq]
    have hfin : okS l = false := by simp [okS, hq]
    go_enter Try.func124, Try.ntmps124
    go_wp2_with (go_at_call 106; refine (iQubitCount _ _ _ (by omega) _).mono ?_; rintro e w1 ⟨rfl, rfl⟩)
    go_ret
    exact ⟨by rw [hfin]; rfl, Below.refl _ _⟩
  · have hq' : ((qc l.length : Int) == 0) = false := by simpa using hq
    go_enter Try.func124, Try.ntmps124
    go_wp2_with (go_at_call 106; refine (iQubitCount _ _ _ (by omega) _).mono ?_; rintro e w1 ⟨rfl, rfl⟩)
    go_loopw [10] (fun v wr => ∃ j : Nat, v = .int .i64 j ∧ j ≤ l.length ∧ Hid (∀ i (hi : i < l.length), i < j → l[i].ok = true) ∧ Below w.heap.size w wr) (fun v _ => l.length - (intOf v).toNat)
    case atStart => exact ⟨0, rfl, Nat.zero_le _, fun _ _ h => absurd h (Nat.not_lt_zero _), Below.refl _ _⟩
    case round =>
      obtain ⟨j, rfl, h0, hall, hb0⟩ := hrel
      by_cases hj : j < l.length
      · obtain ⟨b, o, rfl, hlt, hD⟩ := (h.below hb0) j hj
        obtain ⟨d0, d1, d2, d3, d4⟩ := hD
        have hs0 := hb0.size
        by_cases hx : l[j].ok = true
        · go_wp2_with (go_at_call 156; refine (iIsValidD _ _ _ _ _ _).mono ?_; rintro e w1 ⟨rfl, hb⟩)
          go_roundw
          case rel => exact ⟨j + 1, by go_num, by omega, all_step hall.out hx, by (repeat (first | with_reducible exact Below.refl _ _ | with_reducible assumption | with_reducible refine Below.setCell ?_ (by first | omega | (simp; done) | (simp; omega)) _ | with_reducible refine Below.alloc ?_ (by first | omega | (simp; done) | (simp; omega)) _ | with_reducible refine Below.drew ?_ | with_reducible refine belowDrewN ?_ _ | with_reducible refine Below.trans ?_ (Below.mono (by assumption) (by first | omega | (simp; done) | (simp; omega)))))⟩
          case measure => simp [intOf]; omega
        · have hfin : okS l = false := okS_no hj hx
          go_wp2_with (go_at_call 156; refine (iIsValidD _ _ _ _ _ _).mono ?_; rintro e w1 ⟨rfl, hb⟩)
          go_ret
          exact ⟨by rw [hfin]; rfl, by (repeat (first | with_reducible exact Below.refl _ _ | with_reducible assumption | with_reducible refine Below.setCell ?_ (by first | omega | (simp; done) | (simp; omega)) _ | with_reducible refine Below.alloc ?_ (by first | omega | (simp; done) | (simp; omega)) _ | with_reducible refine Below.drew ?_ | with_reducible refine belowDrewN ?_ _ | with_reducible refine Below.trans ?_ (Below.mono (by assumption) (by first | omega | (simp; done) | (simp; omega)))))⟩
      · have hfin : okS l = true := okS_yes hq (by intro i hi; exact hall.out i hi (by omega))
        go_wp2
        go_ret
        exact ⟨by rw [hfin]; rfl, by (repeat (first | with_reducible exact Below.refl _ _ | with_reducible assumption | with_reducible refine Below.setCell ?_ (by first | omega | (simp; done) | (simp; omega)) _ | with_reducible refine Below.alloc ?_ (by first | omega | (simp; done) | (simp; omega)) _ | with_reducible refine Below.drew ?_ | with_reducible refine belowDrewN ?_ _ | with_reducible refine Below.trans ?_ (Below.mono (by assumption) (by first | omega | (simp; done) | (simp; omega)))))⟩

end Go.Proofs.Yteckhaafdojoeaa

/-! S2: The contracts of the arithmetic, at whole numbers. -/
namespace Go.Proofs.Yteckhaafdojoeaa
open Go.RowKit

theorem iMulD' (x y : DO) (w : World) : Calls Try.prog 126 #[Dv x, Dv y] w fun e w' => e = .returned (.tuple #[Dv (mulD x y).1, .bool (mulD x y).2]) ∧ Below w.heap.size w w' := iMulD _ _ _ _ _ _ _ _ _ _ _
theorem iAddD' (x y : DO) (w : World) : Calls Try.prog 176 #[Dv x, Dv y] w fun e w' => e = .returned (.tuple #[Dv (addD x y).1, .bool (addD x y).2]) ∧ Below w.heap.size w w' := iAddD _ _ _ _ _ _ _ _ _ _ _
theorem iNegD' (x : DO) (w : World) : Calls Try.prog 130 #[Dv x] w fun e w' => e = .returned (Dv (negD x)) ∧ Below w.heap.size w w' := iNegD _ _ _ _ _ _
theorem iConjD' (x : DO) (w : World) : Calls Try.prog 107 #[Dv x] w fun e w' => e = .returned (Dv (conjD x)) ∧ Below w.heap.size w w' := iConjD _ _ _ _ _ _
theorem iIsValidD' (x : DO) (w : World) : Calls Try.prog 156 #[Dv x] w fun e w' => e = .returned (.bool x.ok) ∧ Below w.heap.size w w' := iIsValidD _ _ _ _ _ _
theorem sMulD' (x y : DO) (w : World) : Calls Try.prog 121 #[Dv x, Dv y] w fun e w' => e = .returned (.tuple #[Dv (mulD x y).1, .bool (mulD x y).2]) ∧ Below w.heap.size w w' := sMulD _ _ _ _ _ _ _ _ _ _ _
theorem sAddD' (x y : DO) (w : World) : Calls Try.prog 122 #[Dv x, Dv y] w fun e w' => e = .returned (.tuple #[Dv (addD x y).1, .bool (addD x y).2]) ∧ Below w.heap.size w w' := sAddD _ _ _ _ _ _ _ _ _ _ _
theorem sNegD' (x : DO) (w : World) : Calls Try.prog 168 #[Dv x] w fun e w' => e = .returned (Dv (negD x)) ∧ Below w.heap.size w w' := sNegD _ _ _ _ _ _
theorem sConjD' (x : DO) (w : World) : Calls Try.prog 146 #[Dv x] w fun e w' => e = .returned (Dv (conjD x)) ∧ Below w.heap.size w w' := sConjD _ _ _ _ _ _
theorem sIsValidD' (x : DO) (w : World) : Calls Try.prog 164 #[Dv x] w fun e w' => e = .returned (.bool x.ok) ∧ Below w.heap.size w w' := sIsValidD _ _ _ _ _ _

end Go.Proofs.Yteckhaafdojoeaa

/-! S3: The walk of impl.dot. -/
namespace Go.Proofs.Yteckhaafdojoeaa
open Go.RowKit

set_option maxHeartbeats 8000000 in
theorem iDot (ao bo : Option Addr) (u v : List DO) (cu cv : Nat) (_hn : u.length ≤ 1000000000) (hn' : v.length ≤ 1000000000) (huv : u.length ≤ v.length) (w : World) (hu : StR w ao u) (hv : StR w bo v) :
    Calls Try.prog 142 #[.slice ao u.length cu, .slice bo v.length cv] w fun e w' => e = .returned (.tuple #[Dv (dot u v).1, .bool (dot u v).2]) ∧ Below w.heap.size w w' := by
  go_enter Try.func142, Try.ntmps142
  go_wp2
  go_loopw [15] (fun x wr => ∃ (s : DO) (j : Nat), x = .int .i64 j ∧ j ≤ u.length ∧ Hid (dotF s ((u.zip v).drop j) = dot u v) ∧ Blk wr w.heap.size [.int .i64 0, .int .i64 0, .int .i64 0, .int .i64 0, .int .i64 0] 114 ∧ Blk wr (w.heap.size + 1) [.int .i64 s.n.a, .int .i64 s.n.b, .int .i64 s.n.c, .int .i64 s.n.d, .int .i64 s.e] 114 ∧ Below w.heap.size w wr) (fun x _ => u.length - (intOf x).toNat)
  case atStart => exact ⟨⟨⟨0, 0, 0, 0⟩, 0⟩, 0, rfl, Nat.zero_le _, rfl, by (repeat (first | with_reducible assumption | with_reducible exact Blk.new' _ _ (by first | omega | (simp; done) | (simp; omega)) | with_reducible apply Blk.set5 | with_reducible apply Blk.set4 | with_reducible refine Blk.other ?_ (by first | omega | (simp; done) | (simp; omega)) _ | with_reducible refine Blk.drew ?_ | with_reducible refine Blk.alloc ?_ _ | with_reducible refine Blk.below ?_ (by assumption) (by first | omega | (simp; done) | (simp; omega)))), by (repeat (first | with_reducible assumption | with_reducible exact Blk.new' _ _ (by first | omega | (simp; done) | (simp; omega)) | with_reducible apply Blk.set5 | with_reducible apply Blk.set4 | with_reducible refine Blk.other ?_ (by first | omega | (simp; done) | (simp; omega)) _ | with_reducible refine Blk.drew ?_ | with_reducible refine Blk.alloc ?_ _ | with_reducible refine Blk.below ?_ (by assumption) (by first | omega | (simp; done) | (simp; omega)))), by (repeat (first | with_reducible exact Below.refl _ _ | with_reducible assumption | with_reducible refine Below.setCell ?_ (by first | omega | (simp; done) | (simp; omega)) _ | with_reducible refine Below.alloc ?_ (by first | omega | (simp; done) | (simp; omega)) _ | with_reducible refine Below.drew ?_ | with_reducible refine belowDrewN ?_ _ | with_reducible refine Below.trans ?_ (Below.mono (by assumption) (by first | omega | (simp; done) | (simp; omega)))))⟩
  case round =>
    obtain ⟨⟨⟨p, q, r, s⟩, t⟩, j, rfl, h0, hinv, hB, hB1, hb0⟩ := hrel
    dsimp only at hB1
    obtain ⟨cB, fB, sB⟩ := hB.facts
    obtain ⟨cB1, fB1, sB1⟩ := hB1.facts
    have hs0 := hb0.size
    by_cases hj : j < u.length
    · obtain ⟨b, o, rfl, hlt, hD⟩ := (hu.below hb0) j hj
      obtain ⟨d0, d1, d2, d3, d4⟩ := hD
      obtain ⟨b', o', rfl, hlt', hD'⟩ := (hv.below hb0) j (by omega)
      obtain ⟨g0, g1, g2, g3, g4⟩ := hD'
      have hjv : j < v.length := by omega
      by_cases hm : (mulD u[j] v[j]).2 = true
      · by_cases ha : (addD ⟨⟨p, q, r, s⟩, t⟩ (mulD u[j] v[j]).1).2 = true
        · go_wp2
          go_region_held3 (fun w' => Below wr.heap.size wr w' ∧ (∀ b o, b < wr.heap.size → w'.cell? ⟨b, o, none⟩ = wr.cell? ⟨b, o, none⟩) ∧ (∀ b o, b < wr.heap.size → w'.frozen? ⟨b, o, none⟩ = wr.frozen? ⟨b, o, none⟩) ∧ wr.heap.size ≤ w'.heap.size) ((exact bpack (by (repeat (first | with_reducible exact Below.refl _ _ | with_reducible assumption | with_reducible refine Below.setCell ?_ (by first | omega | (simp; done) | (simp; omega)) _ | with_reducible refine Below.alloc ?_ (by first | omega | (simp; done) | (simp; omega)) _ | with_reducible refine Below.drew ?_ | with_reducible refine belowDrewN ?_ _ | with_reducible refine Below.trans ?_ (Below.mono (by assumption) (by first | omega | (simp; done) | (simp; omega)))))))) (first | (go_at_call 126; refine (iMulD' u[j] v[j] _).mono ?_; rintro e wa ⟨rfl, hb⟩; obtain ⟨hc, hf, hz⟩ := bcell hb; (try simp only [World.size_drew, World.cell?_drew, World.frozen?_drew] at hc hf hz); (try simp at hz); (try have kk := fun o => hc (w.heap.size) o (by first | omega | (simp; done) | (simp; omega))); (try have kf := fun o => hf (w.heap.size) o (by first | omega | (simp; done) | (simp; omega))); (try have zz : w.heap.size < wa.heap.size := by omega); (try have kk := fun o => hc (w.heap.size + 1) o (by first | omega | (simp; done) | (simp; omega))); (try have kf := fun o => hf (w.heap.size + 1) o (by first | omega | (simp; done) | (simp; omega))); (try have zz : w.heap.size + 1 < wa.heap.size := by omega); (try have kk := fun o => hc (wr.heap.size) o (by first | omega | (simp; done) | (simp; omega))); (try have kf := fun o => hf (wr.heap.size) o (by first | omega | (simp; done) | (simp; omega))); (try have zz : wr.heap.size < wa.heap.size := by omega)))
          all_goals go_wp2_with (go_at_call 176; refine (iAddD' ⟨⟨p, q, r, s⟩, t⟩ (mulD u[j] v[j]).1 _).mono ?_; rintro e w1 ⟨rfl, hb⟩; obtain ⟨hc, hf, hz⟩ := bcell hb; (try simp only [World.size_drew, World.cell?_drew, World.frozen?_drew] at hc hf hz); (try simp at hz); (try have kk := fun o => hc (w.heap.size) o (by first | omega | (simp; done) | (simp; omega))); (try have kf := fun o => hf (w.heap.size) o (by first | omega | (simp; done) | (simp; omega))); (try have zz : w.heap.size < w1.heap.size := by omega); (try have kk := fun o => hc (w.heap.size + 1) o (by first | omega | (simp; done) | (simp; omega))); (try have kf := fun o => hf (w.heap.size + 1) o (by first | omega | (simp; done) | (simp; omega))); (try have zz : w.heap.size + 1 < w1.heap.size := by omega))
          all_goals go_roundw
          all_goals first
            | exact ⟨(addD ⟨⟨p, q, r, s⟩, t⟩ (mulD u[j] v[j]).1).1, j + 1, by go_num, by omega, dotF_more hj huv hinv.out hm ha, by (repeat (first | with_reducible assumption | with_reducible exact Blk.new' _ _ (by first | omega | (simp; done) | (simp; omega)) | with_reducible apply Blk.set5 | with_reducible apply Blk.set4 | with_reducible refine Blk.other ?_ (by first | omega | (simp; done) | (simp; omega)) _ | with_reducible refine Blk.drew ?_ | with_reducible refine Blk.alloc ?_ _ | with_reducible refine Blk.below ?_ (by assumption) (by first | omega | (simp; done) | (simp; omega)))), by (repeat (first | with_reducible assumption | with_reducible exact Blk.new' _ _ (by first | omega | (simp; done) | (simp; omega)) | with_reducible apply Blk.set5 | with_reducible apply Blk.set4 | with_reducible refine Blk.other ?_ (by first | omega | (simp; done) | (simp; omega)) _ | with_reducible refine Blk.drew ?_ | with_reducible refine Blk.alloc ?_ _ | with_reducible refine Blk.below ?_ (by assumption) (by first | omega | (simp; done) | (simp; omega)))), by (repeat (first | with_reducible exact Below.refl _ _ | with_reducible assumption | with_reducible refine Below.setCell ?_ (by first | omega | (simp; done) | (simp; omega)) _ | with_reducible refine Below.alloc ?_ (by first | omega | (simp; done) | (simp; omega)) _ | with_reducible refine Below.drew ?_ | with_reducible refine belowDrewN ?_ _ | with_reducible refine Below.trans ?_ (Below.mono (by assumption) (by first | omega | (simp; done) | (simp; omega)))))⟩
            | (simp [intOf]; omega)
        · have hfin := Lib.hid (dotF_fail hj huv hinv.out (by simp [ha]))
          go_wp2
          go_region_held3 (fun w' => Below wr.heap.size wr w' ∧ (∀ b o, b < wr.heap.size → w'.cell? ⟨b, o, none⟩ = wr.cell? ⟨b, o, none⟩) ∧ (∀ b o, b < wr.heap.size → w'.frozen? ⟨b, o, none⟩ = wr.frozen? ⟨b, o, none⟩) ∧ wr.heap.size ≤ w'.heap.size) ((exact bpack (by (repeat (first | with_reducible exact Below.refl _ _ | with_reducible assumption | with_reducible refine Below.setCell ?_ (by first | omega | (simp; done) | (simp; omega)) _ | with_reducible refine Below.alloc ?_ (by first | omega | (simp; done) | (simp; omega)) _ | with_reducible refine Below.drew ?_ | with_reducible refine belowDrewN ?_ _ | with_reducible refine Below.trans ?_ (Below.mono (by assumption) (by first | omega | (simp; done) | (simp; omega)))))))) (first | (go_at_call 126; refine (iMulD' u[j] v[j] _).mono ?_; rintro e wa ⟨rfl, hb⟩; obtain ⟨hc, hf, hz⟩ := bcell hb; (try simp only [World.size_drew, World.cell?_drew, World.frozen?_drew] at hc hf hz); (try simp at hz); (try have kk := fun o => hc (w.heap.size) o (by first | omega | (simp; done) | (simp; omega))); (try have kf := fun o => hf (w.heap.size) o (by first | omega | (simp; done) | (simp; omega))); (try have zz : w.heap.size < wa.heap.size := by omega); (try have kk := fun o => hc (w.heap.size + 1) o (by first | omega | (simp; done) | (simp; omega))); (try have kf := fun o => hf (w.heap.size + 1) o (by first | omega | (simp; done) | (simp; omega))); (try have zz : w.heap.size + 1 < wa.heap.size := by omega); (try have kk := fun o => hc (wr.heap.size) o (by first | omega | (simp; done) | (simp; omega))); (try have kf := fun o => hf (wr.heap.size) o (by first | omega | (simp; done) | (simp; omega))); (try have zz : wr.heap.size < wa.heap.size := by omega)))
          all_goals go_wp2_with (go_at_call 176; refine (iAddD' ⟨⟨p, q, r, s⟩, t⟩ (mulD u[j] v[j]).1 _).mono ?_; rintro e w1 ⟨rfl, hb⟩; obtain ⟨hc, hf, hz⟩ := bcell hb; (try simp only [World.size_drew, World.cell?_drew, World.frozen?_drew] at hc hf hz); (try simp at hz); (try have kk := fun o => hc (w.heap.size) o (by first | omega | (simp; done) | (simp; omega))); (try have kf := fun o => hf (w.heap.size) o (by first | omega | (simp; done) | (simp; omega))); (try have zz : w.heap.size < w1.heap.size := by omega); (try have kk := fun o => hc (w.heap.size + 1) o (by first | omega | (simp; done) | (simp; omega))); (try have kf := fun o => hf (w.heap.size + 1) o (by first | omega | (simp; done) | (simp; omega))); (try have zz : w.heap.size + 1 < w1.heap.size := by omega))
          all_goals exact bodyPost_ret (v := .tuple #[.agg #[.int .i64 0, .int .i64 0, .int .i64 0, .int .i64 0, .int .i64 0], .bool false]) (by simp [results, Try.results142, go_sem, *]) rfl ⟨by rw [hfin.out], by (repeat (first | with_reducible exact Below.refl _ _ | with_reducible assumption | with_reducible refine Below.setCell ?_ (by first | omega | (simp; done) | (simp; omega)) _ | with_reducible refine Below.alloc ?_ (by first | omega | (simp; done) | (simp; omega)) _ | with_reducible refine Below.drew ?_ | with_reducible refine belowDrewN ?_ _ | with_reducible refine Below.trans ?_ (Below.mono (by assumption) (by first | omega | (simp; done) | (simp; omega)))))⟩
      · have hfin := Lib.hid (dotF_fail hj huv hinv.out (by simp [hm]))
        go_wp2
        go_region_held3 (fun w' => Below wr.heap.size wr w' ∧ (∀ b o, b < wr.heap.size → w'.cell? ⟨b, o, none⟩ = wr.cell? ⟨b, o, none⟩) ∧ (∀ b o, b < wr.heap.size → w'.frozen? ⟨b, o, none⟩ = wr.frozen? ⟨b, o, none⟩) ∧ wr.heap.size ≤ w'.heap.size) ((exact bpack (by (repeat (first | with_reducible exact Below.refl _ _ | with_reducible assumption | with_reducible refine Below.setCell ?_ (by first | omega | (simp; done) | (simp; omega)) _ | with_reducible refine Below.alloc ?_ (by first | omega | (simp; done) | (simp; omega)) _ | with_reducible refine Below.drew ?_ | with_reducible refine belowDrewN ?_ _ | with_reducible refine Below.trans ?_ (Below.mono (by assumption) (by first | omega | (simp; done) | (simp; omega)))))))) (first | (go_at_call 126; refine (iMulD' u[j] v[j] _).mono ?_; rintro e wa ⟨rfl, hb⟩; obtain ⟨hc, hf, hz⟩ := bcell hb; (try simp only [World.size_drew, World.cell?_drew, World.frozen?_drew] at hc hf hz); (try simp at hz); (try have kk := fun o => hc (w.heap.size) o (by first | omega | (simp; done) | (simp; omega))); (try have kf := fun o => hf (w.heap.size) o (by first | omega | (simp; done) | (simp; omega))); (try have zz : w.heap.size < wa.heap.size := by omega); (try have kk := fun o => hc (w.heap.size + 1) o (by first | omega | (simp; done) | (simp; omega))); (try have kf := fun o => hf (w.heap.size + 1) o (by first | omega | (simp; done) | (simp; omega))); (try have zz : w.heap.size + 1 < wa.heap.size := by omega); (try have kk := fun o => hc (wr.heap.size) o (by first | omega | (simp; done) | (simp; omega))); (try have kf := fun o => hf (wr.heap.size) o (by first | omega | (simp; done) | (simp; omega))); (try have zz : wr.heap.size < wa.heap.size := by omega)))
        all_goals go_wp2_with (go_at_call 176; refine (iAddD' ⟨⟨p, q, r, s⟩, t⟩ (mulD u[j] v[j]).1 _).mono ?_; rintro e w1 ⟨rfl, hb⟩; obtain ⟨hc, hf, hz⟩ := bcell hb; (try simp only [World.size_drew, World.cell?_drew, World.frozen?_drew] at hc hf hz); (try simp at hz); (try have kk := fun o => hc (w.heap.size) o (by first | omega | (simp; done) | (simp; omega))); (try have kf := fun o => hf (w.heap.size) o (by first | omega | (simp; done) | (simp; omega))); (try have zz : w.heap.size < w1.heap.size := by omega); (try have kk := fun o => hc (w.heap.size + 1) o (by first | omega | (simp; done) | (simp; omega))); (try have kf := fun o => hf (w.heap.size + 1) o (by first | omega | (simp; done) | (simp; omega))); (try have zz : w.heap.size + 1 < w1.heap.size := by omega))
        all_goals exact bodyPost_ret (v := .tuple #[.agg #[.int .i64 0, .int .i64 0, .int .i64 0, .int .i64 0, .int .i64 0], .bool false]) (by simp [results, Try.results142, go_sem, *]) rfl ⟨by rw [hfin.out], by (repeat (first | with_reducible exact Below.refl _ _ | with_reducible assumption | with_reducible refine Below.setCell ?_ (by first | omega | (simp; done) | (simp; omega)) _ | with_reducible refine Below.alloc ?_ (by first | omega | (simp; done) | (simp; omega)) _ | with_reducible refine Below.drew ?_ | with_reducible refine belowDrewN ?_ _ | with_reducible refine Below.trans ?_ (Below.mono (by assumption) (by first | omega | (simp; done) | (simp; omega)))))⟩
    · have hfin := Lib.hid (dotF_end hj huv hinv.out)
      go_wp2
      exact bodyPost_ret (v := .tuple #[.agg #[.int .i64 p, .int .i64 q, .int .i64 r, .int .i64 s, .int .i64 t], .bool true]) (by simp [results, Try.results142, go_sem, *]) rfl ⟨by rw [hfin.out], by (repeat (first | with_reducible exact Below.refl _ _ | with_reducible assumption | with_reducible refine Below.setCell ?_ (by first | omega | (simp; done) | (simp; omega)) _ | with_reducible refine Below.alloc ?_ (by first | omega | (simp; done) | (simp; omega)) _ | with_reducible refine Below.drew ?_ | with_reducible refine belowDrewN ?_ _ | with_reducible refine Below.trans ?_ (Below.mono (by assumption) (by first | omega | (simp; done) | (simp; omega)))))⟩

end Go.Proofs.Yteckhaafdojoeaa
