/- FnExactApplyGates: the walk. -/
import Derived.Test.YteckhaafdojoeaaGi
import Derived.Test.YteckhaafdojoeaaGf
namespace Go.Proofs.Yteckhaafdojoeaa
open Go.RowKit

set_option maxRecDepth 100000 in
set_option maxHeartbeats 8000000 in
theorem lExactApplyGates (lo ao : Option Addr) (l : List GT) (v : List DO) (lc cap : Nat) (hnl : l.length ≤ 9223372036854775807) (hn : v.length ≤ 9223372036854775807) (w : World) (hl : RdG w lo l) (h : StR w ao v) :
    Calls Try.prog 9 #[.slice lo l.length lc, .slice ao v.length cap] w fun e w' => e = .returned (.bool true) ∧ Below w.heap.size w w' := by
  by_cases hz1 : (1048576 : Int) - (l.length : Int) < 0
  · go_enter Try.func9, Try.ntmps9
    go_wp2_with fail
    refine (lSzGs _ _ _ _ (by decide) (by decide) hnl _).mono ?_
    rintro e _ ⟨rfl, rfl⟩
    rw [if_pos (by omega)]
    go_wp2
    go_ret
    exact ⟨rfl, by (repeat (first | with_reducible exact Below.refl _ _ | with_reducible assumption | with_reducible refine Below.setCell ?_ (by first | omega | (simp; done) | (simp; omega)) _ | with_reducible refine Below.alloc ?_ (by first | omega | (simp; done) | (simp; omega)) _ | with_reducible refine Below.drew ?_ | with_reducible refine belowDrewN ?_ _ | with_reducible refine Below.trans ?_ (Below.mono (by assumption) (by first | omega | (simp; done) | (simp; omega)))))⟩
  · have hl2 : l.length ≤ 2000000 := by omega
    by_cases hz2 : (1048576 : Int) - (l.length : Int) - (v.length : Int) < 0
    · go_enter Try.func9, Try.ntmps9
      go_wp2_with fail
      refine (lSzGs _ _ _ _ (by decide) (by decide) hnl _).mono ?_
      rintro e _ ⟨rfl, rfl⟩
      obtain ⟨l', hl'⟩ : ∃ l', l' = (1048576 : Int) - (l.length : Int) := ⟨_, rfl⟩
      have h2 : 0 ≤ l' := by omega
      have h3 : l' ≤ 1048576 := by omega
      have h4 : l' - (v.length : Int) < 0 := by omega
      have h5 : ¬ l' < 0 := by omega
      rw [if_neg (by omega), ← hl']
      clear hl' hz1 hz2
      go_wp2_with fail
      refine (lSzS _ _ _ _ h2 h3 hn _).mono ?_
      rintro e _ ⟨rfl, rfl⟩
      rw [if_pos (by omega)]
      go_wp2
      go_ret
      exact ⟨rfl, by (repeat (first | with_reducible exact Below.refl _ _ | with_reducible assumption | with_reducible refine Below.setCell ?_ (by first | omega | (simp; done) | (simp; omega)) _ | with_reducible refine Below.alloc ?_ (by first | omega | (simp; done) | (simp; omega)) _ | with_reducible refine Below.drew ?_ | with_reducible refine belowDrewN ?_ _ | with_reducible refine Below.trans ?_ (Below.mono (by assumption) (by first | omega | (simp; done) | (simp; omega)))))⟩
    · have hn2 : v.length ≤ 2000000 := by omega
      obtain ⟨R1, R2, hR⟩ : ∃ R1 R2, applyGs l v = (R1, R2) := ⟨_, _, rfl⟩
      have hRl : R1.length ≤ 2000000 := by have := applyGs_len' (l := l) hn2; rw [hR] at this; exact this
      have hR2 : (R2 != R2) = false := by cases R2 <;> rfl
      have hS : ∀ (bo ao : Option Addr) (c cap : Nat) (w : World), RdG w bo l → StR w ao v → Calls Try.prog 57 #[.slice bo l.length c, .slice ao v.length cap] w fun e w' => ∃ x, e = .returned (.tuple #[x, .bool R2]) ∧ OwnS w' w.heap.size x R1 ∧ Below w.heap.size w w' := fun bo ao c cap w h1 h2 => by
        have := sApplyGates bo ao l v c cap hl2 hn2 w h1 h2
        rwa [hR] at this
      have hI : ∀ (bo ao : Option Addr) (c cap : Nat) (w : World), RdG w bo l → StR w ao v → Calls Try.prog 59 #[.slice bo l.length c, .slice ao v.length cap] w fun e w' => ∃ x, e = .returned (.tuple #[x, .bool R2]) ∧ OwnS w' w.heap.size x R1 ∧ Below w.heap.size w w' := fun bo ao c cap w h1 h2 => by
        have := iApplyGates bo ao l v c cap hl2 hn2 w h1 h2
        rwa [hR] at this
      clear hR
      go_enter Try.func9, Try.ntmps9
      go_wp2_with fail
      refine (lSzGs _ _ _ _ (by decide) (by decide) hnl _).mono ?_
      rintro e _ ⟨rfl, rfl⟩
      obtain ⟨l', hl'⟩ : ∃ l', l' = (1048576 : Int) - (l.length : Int) := ⟨_, rfl⟩
      have h2 : 0 ≤ l' := by omega
      have h3 : l' ≤ 1048576 := by omega
      have h4 : ¬ l' - (v.length : Int) < 0 := by omega
      have h5 : ¬ l' < 0 := by omega
      rw [if_neg (by omega), ← hl']
      clear hl' hz1 hz2
      go_wp2_with fail
      refine (lSzS _ _ _ _ h2 h3 hn _).mono ?_
      rintro e _ ⟨rfl, rfl⟩
      obtain ⟨l2, hl2'⟩ : ∃ l2, l2 = l' - (v.length : Int) := ⟨_, rfl⟩
      have h6 : ¬ l2 < 0 := by omega
      rw [if_neg (by omega), ← hl2']
      clear hl2' h2 h3 h4 h5
      -- the reference
      go_wp2_with fail
      refine (lToGs _ l _ hl2 _ hl).mono ?_
      rintro e w1 ⟨x, rfl, hx, hb1⟩
      have hs1 := hb1.size
      go_wp2_with fail
      refine (lToS _ v _ hn2 _ (h.below hb1)).mono ?_
      rintro e w2 ⟨y, rfl, hy, hb2⟩
      have hs2 := hb2.size
      have hx2 := hx.below hb2 (Nat.le_refl _)
      obtain ⟨xo, xc, rfl, hxR, _, _⟩ := hx2.read gcells_len
      obtain ⟨yo, yc, rfl, hyR, _, _⟩ := hy.read
      go_wp2_with fail
      refine (hS _ _ _ _ _ hxR hyR).mono ?_
      rintro e w3 ⟨z, rfl, hz, hb3⟩
      have hs3 := hb3.size
      have hb03 : Below w.heap.size w w3 := (hb1.trans (hb2.mono hs1)).trans (hb3.mono (by omega))
      have hs03 := hb03.size
      obtain ⟨zo, zc, rfl, hzR, _, _⟩ := hz.read
      have hl3 := hl.below hb03
      have hv3 := h.below hb03
      clear hz hb1 hb2 hb3 hx hx2 hxR hy hyR hs1 hs2 hs3
      -- the program's arguments
      go_wp2_with fail
      refine (lToGs _ l _ hl2 _ hl3).mono ?_
      rintro e w4 ⟨x0, rfl, hx0, hb4⟩
      have hs4 := hb4.size
      have hx0b := Lib.hid (fun k hk => OwnF.lt hx0 k hk)
      go_wp2_with fail
      refine (lToS _ v _ hn2 _ (hv3.below hb4)).mono ?_
      rintro e w5 ⟨x1, rfl, hx1, hb5⟩
      have hs5 := hb5.size
      have hx1b := Lib.hid (fun k hk => World.ownsRow.lt hx1 k hk)
      have hx05 := hx0.below hb5 (Nat.le_refl _)
      have hB5 : Below w3.heap.size w3 w5 := hb4.trans (hb5.mono hs4)
      obtain ⟨po, pc, rfl, hpR, _, _⟩ := hx05.read gcells_len
      obtain ⟨qo, qc', rfl, hqR, _, _⟩ := hx1.read
      clear hx0 hb4 hb5
      go_wp2_with fail
      refine (hI _ _ _ _ _ hpR hqR).mono ?_
      rintro e w6 ⟨gv, rfl, hg6, hb6⟩
      have hs6 := hb6.size
      have hB6 : Below w3.heap.size w3 w6 := hB5.trans (hb6.mono (by omega))
      have hx06 := hx05.below hb6 (Nat.le_refl _)
      have hx16 := hx1.below hb6 (Nat.le_refl _)
      obtain ⟨go, gc, rfl, hgR, _, _⟩ := hg6.read
      clear hb6 hB5 hx05 hx1 hpR hqR
      go_wp2_with fail
      refine (lEqS _ _ R1 _ _ hRl _ hgR (hzR.below hB6)).mono ?_
      rintro e w7 ⟨rfl, hb7⟩
      have hs7 := hb7.size
      have hB7 : Below w3.heap.size w3 w7 := hB6.trans (hb7.mono (by omega))
      have hx07 := hx06.below hb7 (Nat.le_refl _)
      have hx17 := hx16.below hb7 (Nat.le_refl _)
      have hg7 := hg6.below hb7 (Nat.le_refl _)
      clear hb7 hB6 hx06 hx16 hg6 hgR
      go_wp2_with fail
      refine (lToGs _ l _ hl2 _ (hl3.below hB7)).mono ?_
      rintro e w8 ⟨t, rfl, ht, hb8⟩
      have hs8 := hb8.size
      obtain ⟨to, tc, rfl, htR, _, _⟩ := ht.read gcells_len
      have hB8 : Below w3.heap.size w3 w8 := hB7.trans (hb8.mono (by omega))
      have hx08 := hx07.below hb8 (Nat.le_refl _)
      have hx18 := hx17.below hb8 (Nat.le_refl _)
      have hg8 := hg7.below hb8 (Nat.le_refl _)
      obtain ⟨_, _, e8, hx0R8, _, _⟩ := hx08.read gcells_len
      cases e8
      clear hb8 hB7 hx07 hx17 hg7 ht
      go_wp2_with fail
      refine (lEqGs _ _ l _ _ hl2 _ hx0R8 htR).mono ?_
      rintro e w9 ⟨rfl, hb9⟩
      have hs9 := hb9.size
      have hB9 : Below w3.heap.size w3 w9 := hB8.trans (hb9.mono (by omega))
      have hx09 := hx08.below hb9 (Nat.le_refl _)
      have hx19 := hx18.below hb9 (Nat.le_refl _)
      have hg9 := hg8.below hb9 (Nat.le_refl _)
      clear hb9 hB8 hx08 hx18 hg8 hx0R8 htR
      go_wp2_with fail
      refine (lToS _ v _ hn2 _ (hv3.below hB9)).mono ?_
      rintro e w10 ⟨t, rfl, ht, hb10⟩
      have hs10 := hb10.size
      obtain ⟨uo, uc, rfl, htR, _, _⟩ := ht.read
      have hB10 : Below w3.heap.size w3 w10 := hB9.trans (hb10.mono (by omega))
      have hx010 := hx09.below hb10 (Nat.le_refl _)
      have hx110 := hx19.below hb10 (Nat.le_refl _)
      have hg10 := hg9.below hb10 (Nat.le_refl _)
      obtain ⟨_, _, e10, hx1R10, _, _⟩ := hx110.read
      cases e10
      clear hb10 hB9 hx09 hx19 hg9 ht
      go_wp2_with fail
      refine (lEqS _ _ v _ _ hn2 _ hx1R10 htR).mono ?_
      rintro e w11 ⟨rfl, hb11⟩
      have hs11 := hb11.size
      have hB11 : Below w3.heap.size w3 w11 := hB10.trans (hb11.mono (by omega))
      have hx011 := hx010.below hb11 (Nat.le_refl _)
      have hx111 := hx110.below hb11 (Nat.le_refl _)
      have hg11 := hg10.below hb11 (Nat.le_refl _)
      clear hb11 hB10 hx010 hx110 hg10 hx1R10 htR
      -- the marks on the arguments
      go_wp2_with fail
      refine (lMarkGs _ _ l 1 (by decide) hl2 _ hx011).mono ?_
      rintro e w12 ⟨rfl, hr12⟩
      have hs12 := hr12.size
      have hx112 := hx111.frame (fun k h1 h2 => hr12.block k h2 (fun e => by have := hx0b.out k e.symm; omega))
      have hg12 := hg11.frame (fun k h1 h2 => hr12.block k h2 (fun e => by have := hx0b.out k e.symm; omega))
      have hB12 : Below w3.heap.size w3 w12 := hB11.grown hr12 (by omega) (fun k hk => (hx0b.out k hk).1)
      clear hr12 hB11 hx011 hx111 hg11 hx0b
      obtain ⟨q0, hq0⟩ : ∃ q0 : Nat, q0 = 1 + 4 * l.length := ⟨_, rfl⟩
      have hq0b : q0 ≤ 1000000000000 := by omega
      rw [← hq0]
      clear hq0
      go_wp2_with fail
      refine (lMarkS _ _ v q0 hq0b hn2 _ hx112).mono ?_
      rintro e w13 ⟨rfl, hx113, hr13⟩
      have hs13 := hr13.size
      have hg13 := hg12.frame (fun k h1 h2 => hr13.block k h2 (fun e => by have := hx1b.out k e.symm; omega))
      have hB13 : Below w3.heap.size w3 w13 := hB12.grown hr13 (by omega) (fun k hk => by have := (hx1b.out k hk).1; omega)
      obtain ⟨_, _, e13, hgR13, _, _⟩ := hg13.read
      cases e13
      clear hr13 hx113 hB12 hx112 hg12 hx1b
      obtain ⟨q1, hq1⟩ : ∃ q1 : Nat, q1 = q0 + 5 * v.length := ⟨_, rfl⟩
      rw [← hq1]
      clear hq1
      go_wp2_with fail
      refine (lEqS _ _ R1 _ _ hRl _ hgR13 (hzR.below hB13)).mono ?_
      rintro e w14 ⟨rfl, hb14⟩
      have hs14 := hb14.size
      have hB14 : Below w3.heap.size w3 w14 := hB13.trans (hb14.mono (by omega))
      have hg14 := hg13.below hb14 (Nat.le_refl _)
      have hgb := Lib.hid (fun k hk => World.ownsRow.lt hg14 k hk)
      clear hb14 hB13 hg13 hgR13
      go_wp2_with fail
      refine (lMarkS _ _ R1 1 (by decide) hRl _ hg14).mono ?_
      rintro e w15 ⟨rfl, hg15, hr15⟩
      have hs15 := hr15.size
      have hB15 : Below w3.heap.size w3 w15 := hB14.grown hr15 (by omega) (fun k hk => by have := (hgb.out k hk).1; omega)
      obtain ⟨_, _, e15, hgR15, _, _⟩ := hg15.read
      rw [marks_length] at e15
      cases e15
      clear hr15 hB14 hg14 hgb hg15
      obtain ⟨q2, hq2⟩ : ∃ q2 : Nat, q2 = 1 + 5 * R1.length := ⟨_, rfl⟩
      have HQ2 := Lib.hid hq2
      rw [← hq2]
      clear hq2
      have hneq : ((q2 : Int) != (q2 : Int)) = false := by simp
      go_wp2_with fail
      refine (lHeldS _ R1.length _ 1 (by decide) hRl _ hgR15).mono ?_
      rintro e _ ⟨rfl, rfl⟩
      rw [← HQ2.out]
      go_wp2_with fail
      refine (lToGs _ l _ hl2 _ (hl3.below hB15)).mono ?_
      rintro e w16 ⟨t, rfl, ht, hb16⟩
      have hs16 := hb16.size
      have hB16 : Below w3.heap.size w3 w16 := hB15.trans (hb16.mono (by omega))
      go_wp2_with fail
      refine (lToS _ v _ hn2 _ (hv3.below hB16)).mono ?_
      rintro e w17 ⟨s, rfl, hs, hb17⟩
      have hs17 := hb17.size
      have ht17 := ht.below hb17 (Nat.le_refl _)
      obtain ⟨ro, rc, rfl, hrR, _, _⟩ := ht17.read gcells_len
      obtain ⟨so, sc, rfl, hsR, _, _⟩ := hs.read
      have hC17 : Below w15.heap.size w15 w17 := hb16.trans (hb17.mono (by omega))
      clear hb16 hb17 hB16 ht ht17 hs
      go_wp2_with fail
      refine (hI _ _ _ _ _ hrR hsR).mono ?_
      rintro e w18 ⟨hv, rfl, hh18, hb18⟩
      have hs18 := hb18.size
      obtain ⟨ho, hc, rfl, hhR, _, _⟩ := hh18.read
      have hC18 : Below w15.heap.size w15 w18 := hC17.trans (hb18.mono (by omega))
      clear hb18 hC17 hrR hsR hh18
      go_wp2_with fail
      refine (lEqS _ _ R1 _ _ hRl _ hhR (hzR.below (hB15.trans (hC18.mono (by omega))))).mono ?_
      rintro e w19 ⟨rfl, hb19⟩
      have hs19 := hb19.size
      have hC19 : Below w15.heap.size w15 w19 := hC18.trans (hb19.mono (by omega))
      clear hb19 hC18 hhR
      go_wp2_with fail
      refine (lHeldS _ R1.length _ 1 (by decide) hRl _ (hgR15.below hC19)).mono ?_
      rintro e _ ⟨rfl, rfl⟩
      rw [← HQ2.out]
      have hfinal : Below w.heap.size w w19 := hb03.trans ((hB15.trans (hC19.mono (by omega))).mono hs03)
      clear hC19 hB15
      go_wp2
      go_ret
      exact ⟨rfl, hfinal⟩

end Go.Proofs.Yteckhaafdojoeaa
