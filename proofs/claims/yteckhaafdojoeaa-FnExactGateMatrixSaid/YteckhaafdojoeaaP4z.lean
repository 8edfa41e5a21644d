/- FnExactGateMatrix: the walk. -/
import Derived.Test.YteckhaafdojoeaaGg
import Derived.Test.YteckhaafdojoeaaGi
import Derived.Test.YteckhaafdojoeaaGf
namespace Go.Proofs.Yteckhaafdojoeaa
open Go.RowKit

theorem flip_sz {m : List (List DO)} {n : Nat} (h : m.length ≤ n) : (flip m).length ≤ n ∧ ∀ r ∈ flip m, r.length ≤ n := by
  refine ⟨by rw [flip_length]; exact h, fun r hr => ?_⟩
  rw [mem_flip_length hr]
  exact h
theorem gateM_sz (g : GT) (n : Int) : (gateM g n).1.length ≤ 16 ∧ ∀ r ∈ (gateM g n).1, r.length ≤ 16 := by
  unfold gateM
  split
  · rename_i h
    have hp := (GT.parts h).1
    refine flip_sz ?_
    rw [List.length_map, List.length_range]
    exact two_le16 (by omega)
  · exact ⟨Nat.zero_le _, fun r hr => by cases hr⟩

set_option maxRecDepth 100000 in
set_option maxHeartbeats 8000000 in
theorem lExactGateMatrix (g : GT) (n : Int) (w : World) :
    Calls Try.prog 8 #[Gv g, .int .i64 n] w fun e w' => e = .returned (.bool true) ∧ Below w.heap.size w w' := by
  have hsz := gateM_sz g n
  obtain ⟨R1, R2, hR⟩ : ∃ R1 R2, gateM g n = (R1, R2) := ⟨_, _, rfl⟩
  have hS : ∀ w, Calls Try.prog 52 #[Gv g, .int .i64 n] w fun e w' => ∃ x, e = .returned (.tuple #[x, .bool R2]) ∧ OwnM w' w.heap.size x R1 ∧ Below w.heap.size w w' := fun w => by
    have := sGateMatrix g n w
    rwa [hR] at this
  have hI : ∀ w, Calls Try.prog 53 #[Gv g, .int .i64 n] w fun e w' => ∃ x, e = .returned (.tuple #[x, .bool R2]) ∧ OwnM w' w.heap.size x R1 ∧ Below w.heap.size w w' := fun w => by
    have := iGateMatrix g n w
    rwa [hR] at this
  rw [hR] at hsz
  have hz1 : R1.length ≤ 100 := by have := hsz.1; dsimp only at this; omega
  have hz2 : ∀ r ∈ R1, r.length ≤ 100 := fun r hr => by have := hsz.2 r hr; omega
  have hz : SzM R1 := ⟨by omega, fun r hr => by have := hz2 r hr; omega⟩
  have HZ := Lib.hid hz2
  have hof := off_le hz2 R1.length (Nat.le_refl _)
  have hR2 : (R2 != R2) = false := by cases R2 <;> rfl
  clear hR hsz hz2
  go_enter Try.func8, Try.ntmps8
  go_wp2_with fail
  refine calls_gen fun W hW => ?_
  have hB : Blk W w.heap.size [.int .i64 g.k, .int .i64 g.a, .int .i64 g.b, .int .i64 g.c] 53 := by rw [hW]; exact Blk.new' _ _ rfl
  have hb0 : Below w.heap.size w W := by rw [hW]; (repeat (first | with_reducible exact Below.refl _ _ | with_reducible assumption | with_reducible refine Below.setCell ?_ (by first | omega | (simp; done) | (simp; omega)) _ | with_reducible refine Below.alloc ?_ (by first | omega | (simp; done) | (simp; omega)) _ | with_reducible refine Below.drew ?_ | with_reducible refine belowDrewN ?_ _ | with_reducible refine Below.trans ?_ (Below.mono (by assumption) (by first | omega | (simp; done) | (simp; omega)))))
  clear hW
  have hs0 := hB.lt
  have facts : ∀ w', Below W.heap.size W w' → (∀ o, w'.cell? ⟨w.heap.size, o, none⟩ = [Value.int .i64 g.k, .int .i64 g.a, .int .i64 g.b, .int .i64 g.c][o]?) := fun w' hb o => by
    rw [hb.cell (p := ⟨w.heap.size, o, none⟩) hs0, hB.cell o]
  refine (lToGate g _).mono ?_
  rintro e w1 ⟨rfl, hb1⟩
  have hs1 := hb1.size
  go_wp2_with fail
  refine (hS _).mono ?_
  rintro e w3 ⟨y, rfl, hy, hb3⟩
  have hb03 : Below W.heap.size W w3 := hb1.trans (hb3.mono hs1)
  have hs3 := hb03.size
  obtain ⟨yo, yc, rfl, hyR, _, _⟩ := hy.read
  clear hy hb3 hb1 hs1
  have c3 := facts w3 hb03
  go_wp2_with fail
  refine (lToGate g _).mono ?_
  rintro e w5 ⟨rfl, hb5⟩
  have hs5 := hb5.size
  go_wp2_with fail
  refine (hI _).mono ?_
  rintro e w6 ⟨gv, rfl, hg6, hb6⟩
  have hs6 := hb6.size
  have hB6 : Below w3.heap.size w3 w6 := hb5.trans (hb6.mono hs5)
  obtain ⟨go, gc, rfl, hgR, _, _⟩ := hg6.read
  clear hb6 hb5
  go_wp2_with fail
  refine (lEqSS _ _ R1 _ _ hz _ hgR (hyR.below hB6)).mono ?_
  rintro e w7 ⟨rfl, hb7⟩
  have hs7 := hb7.size
  have hB7 : Below w3.heap.size w3 w7 := hB6.trans (hb7.mono (by omega))
  have hg7 := hg6.below hb7 (Nat.le_refl _)
  clear hb7 hB6 hg6 hgR
  go_wp2_with fail
  refine (lMarkSS _ _ R1 1 (by decide) hz1 HZ.out _ hg7 (by omega)).mono ?_
  rintro e w12 ⟨rfl, hg12, hr12⟩
  have hs12 := hr12.size
  have hB12 : Below w3.heap.size w3 w12 := hB7.trans (hr12.mono hs5)
  obtain ⟨_, _, e12, hgR12, _, _⟩ := hg12.read
  rw [mkMP_length] at e12
  cases e12
  clear hr12 hB7 hg12 hg7
  obtain ⟨q2, hq2⟩ : ∃ q2 : Nat, q2 = 1 + 5 * off R1 R1.length := ⟨_, rfl⟩
  have HQ2 := Lib.hid hq2
  have hqb : q2 ≤ 1000000 := by omega
  rw [← hq2]
  clear hq2 hof
  have hneq : ((q2 : Int) != (q2 : Int)) = false := by simp
  go_wp2_with fail
  refine (lHeldSS _ _ R1 1 (by decide) hz1 HZ.out _ hgR12).mono ?_
  rintro e _ ⟨rfl, rfl⟩
  rw [← HQ2.out]
  have c12 := facts w12 (hb03.trans (hB12.mono hs3))
  clear c3
  go_wp2_with fail
  refine (lToGate g _).mono ?_
  rintro e w13 ⟨rfl, hb13⟩
  have hs13 := hb13.size
  go_wp2_with fail
  refine (hI _).mono ?_
  rintro e w15 ⟨hv, rfl, hh15, hb15⟩
  have hs15 := hb15.size
  obtain ⟨ho, hc, rfl, hhR, _, _⟩ := hh15.read
  have hC15 : Below w12.heap.size w12 w15 := hb13.trans (hb15.mono hs13)
  clear hb15 hb13 hh15
  go_wp2_with fail
  refine (lEqSS _ _ R1 _ _ hz _ hhR (hyR.below (hB12.trans (hC15.mono (by omega))))).mono ?_
  rintro e w16 ⟨rfl, hb16⟩
  have hs16 := hb16.size
  have hC16 : Below w12.heap.size w12 w16 := hC15.trans (hb16.mono (by omega))
  clear hb16 hC15 hhR
  go_wp2_with fail
  refine (lHeldSS _ _ R1 1 (by decide) hz1 HZ.out _ (hgR12.below hC16)).mono ?_
  rintro e _ ⟨rfl, rfl⟩
  rw [← HQ2.out]
  have hfinal : Below w.heap.size w w16 := hb0.trans ((hb03.trans ((hB12.trans (hC16.mono (by omega))).mono hs3)).mono (by omega))
  clear facts c12 hC16 hB12
  go_wp2
  go_ret
  exact ⟨rfl, hfinal⟩

end Go.Proofs.Yteckhaafdojoeaa
