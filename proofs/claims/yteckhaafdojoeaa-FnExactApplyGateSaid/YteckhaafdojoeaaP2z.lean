/- FnExactApplyGate: the walk. -/
import Derived.Test.YteckhaafdojoeaaGg
import Derived.Test.YteckhaafdojoeaaGh
import Derived.Test.YteckhaafdojoeaaGf
namespace Go.Proofs.Yteckhaafdojoeaa
open Go.RowKit

theorem applyL_no {g : GT} : ∀ (v : List DO) (i : Nat) (out : List DO), ¬ (applyL g i v out).2 = true → (applyL g i v out).1 = []
  | [], _, _, h => absurd rfl h
  | x :: r, i, out, h => by
    rw [applyL] at h ⊢
    split at h
    · rename_i hc
      rw [if_pos hc]
      exact applyL_no r _ _ h
    · rename_i hc
      rw [if_neg hc]
theorem applyG_length (g : GT) (v : List DO) : (applyG g v).1.length ≤ v.length := by
  unfold applyG
  split
  · by_cases h : (applyL g 0 v (List.replicate v.length ⟨⟨0, 0, 0, 0⟩, 0⟩)).2 = true
    · rw [applyL_length _ _ _ h, List.length_replicate]
      exact Nat.le_refl _
    · rw [applyL_no _ _ _ h]
      exact Nat.zero_le _
  · exact Nat.zero_le _
theorem grown_frame {w w' : World} {base : Nat} {r : Option Nat} {v : Value} {l : List DO} (h : OwnS w base v l) (hg : w.grownBy w' r) (hr : ∀ k, r = some k → k < base) : OwnS w' base v l :=
  h.frame fun k h1 h2 => hg.block k h2 fun e => by have := hr k e.symm; omega
theorem grown_below {B : Nat} {w0 w w' : World} {r : Option Nat} (h : Below B w0 w) (hg : w.grownBy w' r) (hB : B ≤ w.heap.size) (hr : ∀ k, r = some k → B ≤ k) : Below B w0 w' := h.grown hg hB hr

theorem calls_gen {P : Program} {f : Nat} {args : Array Value} {w0 : World} {Q : Ending → World → Prop} (h : ∀ W, W = w0 → Calls P f args W Q) : Calls P f args w0 Q := h _ rfl

set_option maxRecDepth 100000 in
set_option maxHeartbeats 8000000 in
theorem lExactApplyGate (g : GT) (ao : Option Addr) (v : List DO) (cap : Nat) (hn : v.length ≤ 9223372036854775807) (w : World) (h : StR w ao v) :
    Calls Try.prog 7 #[Gv g, .slice ao v.length cap] w fun e w' => e = .returned (.bool true) ∧ Below w.heap.size w w' := by
  by_cases hl : (1048576 : Int) - (v.length : Int) < 0
  · go_enter Try.func7, Try.ntmps7
    go_wp2_with fail
    refine (lSzS _ _ _ _ (by decide) (by decide) hn _).mono ?_
    rintro e _ ⟨rfl, rfl⟩
    rw [if_pos hl]
    go_wp2
    go_ret
    exact ⟨rfl, by (repeat (first | with_reducible exact Below.refl _ _ | with_reducible assumption | with_reducible refine Below.setCell ?_ (by first | omega | (simp; done) | (simp; omega)) _ | with_reducible refine Below.alloc ?_ (by first | omega | (simp; done) | (simp; omega)) _ | with_reducible refine Below.drew ?_ | with_reducible refine belowDrewN ?_ _ | with_reducible refine Below.trans ?_ (Below.mono (by assumption) (by first | omega | (simp; done) | (simp; omega)))))⟩
  · have hn2 : v.length ≤ 2000000 := by omega
    obtain ⟨R1, R2, hR⟩ : ∃ R1 R2, applyG g v = (R1, R2) := ⟨_, _, rfl⟩
    have hRl : R1.length ≤ 2000000 := by have := applyG_length g v; rw [hR] at this; simp only at this; omega
    have hR2 : (R2 != R2) = false := by cases R2 <;> rfl
    have hS : ∀ (ao : Option Addr) (cap : Nat) (w : World), StR w ao v → Calls Try.prog 45 #[Gv g, .slice ao v.length cap] w fun e w' => ∃ x, e = .returned (.tuple #[x, .bool R2]) ∧ OwnS w' w.heap.size x R1 ∧ Below w.heap.size w w' := fun ao cap w h => by
      have := sApplyGate g ao v cap hn2 w h
      rwa [hR] at this
    have hI : ∀ (ao : Option Addr) (cap : Nat) (w : World), StR w ao v → Calls Try.prog 48 #[Gv g, .slice ao v.length cap] w fun e w' => ∃ x, e = .returned (.tuple #[x, .bool R2]) ∧ OwnS w' w.heap.size x R1 ∧ Below w.heap.size w w' := fun ao cap w h => by
      have := iApplyGate g ao v cap hn2 w h
      rwa [hR] at this
    clear hR
    go_enter Try.func7, Try.ntmps7
    go_wp2_with fail
    refine (lSzS _ _ _ _ (by decide) (by decide) hn _).mono ?_
    rintro e _ ⟨rfl, rfl⟩
    obtain ⟨l', hl'⟩ : ∃ l', l' = (1048576 : Int) - (v.length : Int) := ⟨_, rfl⟩
    have h2 : ¬ l' < 0 := by omega
    rw [if_neg (by omega), ← hl']
    clear hl' hl
    go_wp2_with fail
    refine calls_gen fun W hW => ?_
    have hB : Blk W w.heap.size [.int .i64 g.k, .int .i64 g.a, .int .i64 g.b, .int .i64 g.c] 53 := by rw [hW]; exact Blk.new' _ _ rfl
    have hb0 : Below w.heap.size w W := by rw [hW]; (repeat (first | with_reducible exact Below.refl _ _ | with_reducible assumption | with_reducible refine Below.setCell ?_ (by first | omega | (simp; done) | (simp; omega)) _ | with_reducible refine Below.alloc ?_ (by first | omega | (simp; done) | (simp; omega)) _ | with_reducible refine Below.drew ?_ | with_reducible refine belowDrewN ?_ _ | with_reducible refine Below.trans ?_ (Below.mono (by assumption) (by first | omega | (simp; done) | (simp; omega)))))
    clear hW
    have hs0 := hB.lt
    have hv0 := h.below hb0
    have facts : ∀ w', Below W.heap.size W w' → (∀ o, w'.cell? ⟨w.heap.size, o, none⟩ = [Value.int .i64 g.k, .int .i64 g.a, .int .i64 g.b, .int .i64 g.c][o]?) := fun w' hb o => by
      rw [hb.cell (p := ⟨w.heap.size, o, none⟩) hs0, hB.cell o]
    refine (lToGate g _).mono ?_
    rintro e w1 ⟨rfl, hb1⟩
    have hs1 := hb1.size
    go_wp2_with fail
    refine (lToS _ v _ hn2 _ (hv0.below hb1)).mono ?_
    rintro e w2 ⟨x, rfl, hx, hb2⟩
    have hb02 : Below W.heap.size W w2 := hb1.trans (hb2.mono hs1)
    have hs2 := hb02.size
    obtain ⟨xo, xc, rfl, hxR, _, _⟩ := hx.read
    clear hx hb1 hb2 hs1
    go_wp2_with fail
    refine (hS _ _ _ hxR).mono ?_
    rintro e w3 ⟨y, rfl, hy, hb3⟩
    have hb03 : Below W.heap.size W w3 := hb02.trans (hb3.mono hs2)
    have hs3 := hb03.size
    obtain ⟨yo, yc, rfl, hyR, _, _⟩ := hy.read
    clear hy hb3 hxR hb02 hs2
    go_wp2_with fail
    refine (lToS _ v _ hn2 _ (hv0.below hb03)).mono ?_
    rintro e w4 ⟨x1, rfl, hx1, hb4⟩
    have hb04 : Below W.heap.size W w4 := hb03.trans (hb4.mono hs3)
    have hs4 := hb4.size
    have c4 := facts w4 hb04
    obtain ⟨zo, zc, rfl, hzR, _, _⟩ := hx1.read
    have hxb := Lib.hid (fun k hk => World.ownsRow.lt hx1 k hk)
    go_wp2_with fail
    refine (lToGate g _).mono ?_
    rintro e w5 ⟨rfl, hb5⟩
    have hs5 := hb5.size
    have hB5 : Below w3.heap.size w3 w5 := hb4.trans (hb5.mono hs4)
    have hx5 := hx1.below hb5 (Nat.le_refl _)
    clear hb04 hx1
    go_wp2_with fail
    refine (hI _ _ _ (hzR.below hb5)).mono ?_
    rintro e w6 ⟨gv, rfl, hg6, hb6⟩
    have hs6 := hb6.size
    have hB6 : Below w3.heap.size w3 w6 := hB5.trans (hb6.mono (by omega))
    have hx6 := hx5.below hb6 (Nat.le_refl _)
    obtain ⟨go, gc, rfl, hgR, _, _⟩ := hg6.read
    clear hb5 hB5 hx5 hzR hb4
    go_wp2_with fail
    refine (lEqS _ _ R1 _ _ hRl _ hgR (hyR.below hB6)).mono ?_
    rintro e w7 ⟨rfl, hb7⟩
    have hs7 := hb7.size
    have hB7 : Below w3.heap.size w3 w7 := hB6.trans (hb7.mono (by omega))
    have hx7 := hx6.below hb7 (Nat.le_refl _)
    have hg7 := hg6.below hb7 (Nat.le_refl _)
    clear hb7 hB6 hx6 hg6 hgR
    go_wp2_with fail
    refine (lToS _ v _ hn2 _ (hv0.below (hb03.trans (hB7.mono hs3)))).mono ?_
    rintro e w8 ⟨x8, rfl, hx8, hb8⟩
    have hs8 := hb8.size
    obtain ⟨to, tc, rfl, htR, _, _⟩ := hx8.read
    have hB8 : Below w3.heap.size w3 w8 := hB7.trans (hb8.mono (by omega))
    have hx8' := hx7.below hb8 (Nat.le_refl _)
    have hg8 := hg7.below hb8 (Nat.le_refl _)
    obtain ⟨_, _, e8, hxR8, _, _⟩ := hx8'.read
    cases e8
    clear hb8 hB7 hx7 hg7 hx8
    go_wp2_with fail
    refine (lEqS _ _ v _ _ hn2 _ hxR8 htR).mono ?_
    rintro e w9 ⟨rfl, hb9⟩
    have hs9 := hb9.size
    have hB9 : Below w3.heap.size w3 w9 := hB8.trans (hb9.mono (by omega))
    have hx9 := hx8'.below hb9 (Nat.le_refl _)
    have hg9 := hg8.below hb9 (Nat.le_refl _)
    clear hb9 hB8 hx8' hg8 hxR8 htR
    go_wp2_with fail
    refine (lMarkS _ _ v 1 (by decide) hn2 _ hx9).mono ?_
    rintro e w10 ⟨rfl, hx10, hr10⟩
    have hs10 := hr10.size
    have hg10 := hg9.frame (fun k h1 h2 => hr10.block k h2 (fun e => by have := hxb.out k e.symm; omega))
    have hB10 : Below w3.heap.size w3 w10 := hB9.grown hr10 (by omega) (fun k hk => (hxb.out k hk).1)
    obtain ⟨_, _, e10, hgR10, _, _⟩ := hg10.read
    cases e10
    clear hx10 hr10 hB9 hx9 hg9 hxb
    obtain ⟨q1, hq1⟩ : ∃ q1 : Nat, q1 = 1 + 5 * v.length := ⟨_, rfl⟩
    rw [← hq1]
    clear hq1
    go_wp2_with fail
    refine (lEqS _ _ R1 _ _ hRl _ hgR10 (hyR.below hB10)).mono ?_
    rintro e w11 ⟨rfl, hb11⟩
    have hs11 := hb11.size
    have hB11 : Below w3.heap.size w3 w11 := hB10.trans (hb11.mono (by omega))
    have hg11 := hg10.below hb11 (Nat.le_refl _)
    have hgb := Lib.hid (fun k hk => World.ownsRow.lt hg11 k hk)
    clear hb11 hB10 hg10 hgR10
    go_wp2_with fail
    refine (lMarkS _ _ R1 1 (by decide) hRl _ hg11).mono ?_
    rintro e w12 ⟨rfl, hg12, hr12⟩
    have hs12 := hr12.size
    have hB12 : Below w3.heap.size w3 w12 := hB11.grown hr12 (by omega) (fun k hk => by have := (hgb.out k hk).1; omega)
    obtain ⟨_, _, e12, hgR12, _, _⟩ := hg12.read
    rw [marks_length] at e12
    cases e12
    clear hr12 hB11 hg11 hgb hg12
    obtain ⟨q2, hq2⟩ : ∃ q2 : Nat, q2 = 1 + 5 * R1.length := ⟨_, rfl⟩
    have HQ2 := Lib.hid hq2
    rw [← hq2]
    clear hq2
    have hneq : ((q2 : Int) != (q2 : Int)) = false := by simp
    go_wp2_with fail
    refine (lHeldS _ R1.length _ 1 (by decide) hRl _ hgR12).mono ?_
    rintro e _ ⟨rfl, rfl⟩
    rw [← HQ2.out]
    have c12 := facts w12 (hb03.trans (hB12.mono hs3))
    clear c4
    go_wp2_with fail
    refine (lToGate g _).mono ?_
    rintro e w13 ⟨rfl, hb13⟩
    have hs13 := hb13.size
    have hB13 : Below w3.heap.size w3 w13 := hB12.trans (hb13.mono (by omega))
    go_wp2_with fail
    refine (lToS _ v _ hn2 _ (hv0.below (hb03.trans (hB13.mono hs3)))).mono ?_
    rintro e w14 ⟨x14, rfl, hx14, hb14⟩
    have hs14 := hb14.size
    obtain ⟨ro, rc, rfl, hrR, _, _⟩ := hx14.read
    have hC14 : Below w12.heap.size w12 w14 := hb13.trans (hb14.mono (by omega))
    clear hb13 hb14 hB13 hx14
    go_wp2_with fail
    refine (hI _ _ _ hrR).mono ?_
    rintro e w15 ⟨hv, rfl, hh15, hb15⟩
    have hs15 := hb15.size
    obtain ⟨ho, hc, rfl, hhR, _, _⟩ := hh15.read
    have hC15 : Below w12.heap.size w12 w15 := hC14.trans (hb15.mono (by omega))
    clear hb15 hC14 hrR hh15
    go_wp2_with fail
    refine (lEqS _ _ R1 _ _ hRl _ hhR (hyR.below (hB12.trans (hC15.mono (by omega))))).mono ?_
    rintro e w16 ⟨rfl, hb16⟩
    have hs16 := hb16.size
    have hC16 : Below w12.heap.size w12 w16 := hC15.trans (hb16.mono (by omega))
    clear hb16 hC15 hhR
    go_wp2_with fail
    refine (lHeldS _ R1.length _ 1 (by decide) hRl _ (hgR12.below hC16)).mono ?_
    rintro e _ ⟨rfl, rfl⟩
    rw [← HQ2.out]
    have hfinal : Below w.heap.size w w16 := hb0.trans ((hb03.trans ((hB12.trans (hC16.mono (by omega))).mono hs3)).mono (by omega))
    clear facts c12 hC16 hB12
    go_wp2
    go_ret
    exact ⟨rfl, hfinal⟩

end Go.Proofs.Yteckhaafdojoeaa
