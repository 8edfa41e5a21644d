/- FnExactCircuitMatrix: the walk. -/
import Derived.Test.YteckhaafdojoeaaGi
namespace Go.Proofs.Yteckhaafdojoeaa
open Go.RowKit BigFrame

theorem flip_sz {m : List (List DO)} {n : Nat} (h : m.length ≤ n) : (flip m).length ≤ n ∧ ∀ r ∈ flip m, r.length ≤ n := by
  refine ⟨by rw [flip_length]; exact h, fun r hr => ?_⟩
  rw [mem_flip_length hr]
  exact h
theorem circM_sz (n : Int) (l : List GT) : (circM n l).1.length ≤ 16 ∧ ∀ r ∈ (circM n l).1, r.length ≤ 16 := by
  unfold circM
  split
  · rename_i h
    have h14 := (inR_iff _ _ _).1 ((okC_iff n l).1 h).1
    unfold matG
    split
    · refine flip_sz ?_
      rw [colsM_length]
      exact two_le16 (by omega)
    · exact ⟨Nat.zero_le _, fun r hr => by cases hr⟩
  · exact ⟨Nat.zero_le _, fun r hr => by cases hr⟩

set_option maxRecDepth 100000 in
set_option maxHeartbeats 8000000 in
theorem lExactCircuitMatrix (n : Int) (ao : Option Addr) (l : List GT) (cap : Nat) (hnl : l.length ≤ 9223372036854775807) (w : World) (hl : RdG w ao l) :
    Calls Try.prog 15 #[Cv n ao l.length cap] w fun e w' => e = .returned (.bool true) ∧ Below w.heap.size w w' := by
  by_cases hz1 : (1048576 : Int) - (l.length : Int) < 0
  · go_enter Try.func15, Try.ntmps15
    go_wp2_with fail
    refine (lSzC _ _ _ _ hnl _).mono ?_
    rintro e w1 ⟨rfl, hb1⟩
    rw [if_pos (by omega)]
    go_wp2
    go_ret
    exact ⟨rfl, by (repeat (first | with_reducible exact Below.refl _ _ | with_reducible assumption | with_reducible refine Below.setCell ?_ (by first | omega | (simp; done) | (simp; omega)) _ | with_reducible refine Below.alloc ?_ (by first | omega | (simp; done) | (simp; omega)) _ | with_reducible refine Below.drew ?_ | with_reducible refine belowDrewN ?_ _ | with_reducible refine Below.trans ?_ (Below.mono (by assumption) (by first | omega | (simp; done) | (simp; omega)))))⟩
  · have hl2 : l.length ≤ 2000000 := by omega
    have hsz := circM_sz n l
    obtain ⟨R1, R2, hR⟩ : ∃ R1 R2, circM n l = (R1, R2) := ⟨_, _, rfl⟩
    have hS : ∀ (bo : Option Addr) (c : Nat) (w : World), RdG w bo l → Calls Try.prog 79 #[Cv n bo l.length c] w fun e w' => ∃ x, e = .returned (.tuple #[x, .bool R2]) ∧ OwnM w' w.heap.size x R1 ∧ Below w.heap.size w w' := fun bo c w h => by
      have := sCircuitMatrix n bo l c hl2 w h
      rwa [hR] at this
    have hI : ∀ (bo : Option Addr) (c : Nat) (w : World), RdG w bo l → Calls Try.prog 31 #[Cv n bo l.length c] w fun e w' => ∃ x, e = .returned (.tuple #[x, .bool R2]) ∧ OwnM w' w.heap.size x R1 ∧ Below w.heap.size w w' := fun bo c w h => by
      have := iCircuitMatrix n bo l c hl2 w h
      rwa [hR] at this
    rw [hR] at hsz
    have hr1 : R1.length ≤ 100 := by have := hsz.1; dsimp only at this; omega
    have hr2 : ∀ r ∈ R1, r.length ≤ 100 := fun r hr => by have := hsz.2 r hr; omega
    have hz : SzM R1 := ⟨by omega, fun r hr => by have := hr2 r hr; omega⟩
    have HZ := Lib.hid hr2
    have hof := off_le hr2 R1.length (Nat.le_refl _)
    have hR2 : (R2 != R2) = false := by cases R2 <;> rfl
    clear hR hsz hr2
    go_enter Try.func15, Try.ntmps15
    go_wp2_with fail
    refine (lSzC _ _ _ _ hnl _).mono ?_
    rintro e wa ⟨rfl, hba⟩
    obtain ⟨l', hl'⟩ : ∃ l', l' = (1048576 : Int) - (l.length : Int) := ⟨_, rfl⟩
    have h5 : ¬ l' < 0 := by omega
    rw [if_neg (by omega), ← hl']
    have hBa : Blk wa w.heap.size [.int .i64 n, .slice ao l.length cap] 89 := (Blk.new' [.int .i64 n, .slice ao l.length cap] _ rfl).below hba (by simp)
    have hb0 : Below w.heap.size w wa := by (repeat (first | with_reducible exact Below.refl _ _ | with_reducible assumption | with_reducible refine Below.setCell ?_ (by first | omega | (simp; done) | (simp; omega)) _ | with_reducible refine Below.alloc ?_ (by first | omega | (simp; done) | (simp; omega)) _ | with_reducible refine Below.drew ?_ | with_reducible refine belowDrewN ?_ _ | with_reducible refine Below.trans ?_ (Below.mono (by assumption) (by first | omega | (simp; done) | (simp; omega)))))
    have hs0 := hb0.size
    have hlt0 := hBa.lt
    have hla := hl.below hb0
    clear hl' hz1 hba hl
    have facts : ∀ w', Below wa.heap.size wa w' → (∀ o, w'.cell? ⟨w.heap.size, o, none⟩ = [Value.int .i64 n, .slice ao l.length cap][o]?) := fun w' hb o => by
      rw [hb.cell (p := ⟨w.heap.size, o, none⟩) hlt0, hBa.cell o]
    have ca := facts wa (Below.refl _ _)
    go_wp2_with fail
    refine (lToC n _ l _ hl2 _ hla).mono ?_
    rintro e w1 ⟨xo, xc, rfl, hx, hb1⟩
    have hs1 := hb1.size
    obtain ⟨_, _, ex, hxR, _, _⟩ := hx.read gcells_len
    cases ex
    go_wp2_with fail
    refine (hS _ _ _ hxR).mono ?_
    rintro e w3 ⟨y, rfl, hy, hb3⟩
    have hb03 : Below wa.heap.size wa w3 := hb1.trans (hb3.mono hs1)
    have hs3 := hb03.size
    obtain ⟨yo, yc, rfl, hyR, _, _⟩ := hy.read
    clear hy hb3 hb1 hs1 hx hxR ca
    have c3 := facts w3 hb03
    -- the program's argument
    go_wp2_with fail
    refine (lToC n _ l _ hl2 _ (hla.below hb03)).mono ?_
    rintro e w4 ⟨zo, zc, rfl, hx0, hb4⟩
    have hs4 := hb4.size
    have hx0b := Lib.hid (fun k hk => OwnF.lt hx0 k hk)
    obtain ⟨_, _, ez, hzR, _, _⟩ := hx0.read gcells_len
    cases ez
    have hxa := hx0.alloc (.cells #[.int .i64 n, .slice zo l.length zc] 35)
    have hzRa := hzR.below ((Below.refl _ _).alloc (Nat.le_refl _) (.cells #[.int .i64 n, .slice zo l.length zc] 35))
    go_wp2_with fail
    refine (hI _ _ _ hzRa).mono ?_
    rintro e w6 ⟨gv, rfl, hg6, hb6⟩
    have hs6 := hb6.size
    have hX6 : Blk w6 w4.heap.size [.int .i64 n, .slice zo l.length zc] 35 := (Blk.new' [.int .i64 n, .slice zo l.length zc] _ rfl).below hb6 (by simp)
    have hB6 : Below w3.heap.size w3 w6 := (hb4.alloc hs4 _).trans (hb6.mono (by simp; omega))
    have hx6 := hxa.below hb6 (Nat.le_refl _)
    obtain ⟨go, gc, rfl, hgR, _, _⟩ := hg6.read
    rw [World.size_alloc] at hs6 hg6
    clear hb6 hb4 hx0 hzR hxa hzRa
    go_wp2_with fail
    refine (lEqSS _ _ R1 _ _ hz _ hgR (hyR.below hB6)).mono ?_
    rintro e w7 ⟨rfl, hb7⟩
    have hs7 := hb7.size
    have hB7 : Below w3.heap.size w3 w7 := hB6.trans (hb7.mono (by omega))
    have hg7 := hg6.below hb7 (Nat.le_refl _)
    have hx7 := hx6.below hb7 (Nat.le_refl _)
    have hX7 := hX6.below hb7 hX6.lt
    obtain ⟨_, _, ez, hzR7, _, _⟩ := hx7.read gcells_len
    cases ez
    clear hb7 hB6 hg6 hgR hx6 hX6
    have c7 := facts w7 (hb03.trans (hB7.mono hs3))
    obtain ⟨cX, fX, sX⟩ := hX7.facts
    have hla7 := hla.below (hb03.trans (hB7.mono hs3))
    have hlt7 : w.heap.size < w7.heap.size := by omega
    clear c3
    go_wp2
    go_region_held3 (fun w' => Below w7.heap.size w7 w' ∧ (∀ b o, b < w7.heap.size → w'.cell? ⟨b, o, none⟩ = w7.cell? ⟨b, o, none⟩) ∧ (∀ b o, b < w7.heap.size → w'.frozen? ⟨b, o, none⟩ = w7.frozen? ⟨b, o, none⟩) ∧ w7.heap.size ≤ w'.heap.size) ((exact bpack (by (repeat (first | with_reducible exact Below.refl _ _ | with_reducible assumption | with_reducible refine Below.setCell ?_ (by first | omega | (simp; done) | (simp; omega)) _ | with_reducible refine Below.alloc ?_ (by first | omega | (simp; done) | (simp; omega)) _ | with_reducible refine Below.drew ?_ | with_reducible refine belowDrewN ?_ _ | with_reducible refine Below.trans ?_ (Below.mono (by assumption) (by first | omega | (simp; done) | (simp; omega)))))))) (first | (go_at_call 80; refine (lToC n _ l _ hl2 _ (hla7.below (by (repeat (first | with_reducible exact Below.refl _ _ | with_reducible assumption | with_reducible refine Below.setCell ?_ (by first | omega | (simp; done) | (simp; omega)) _ | with_reducible refine Below.alloc ?_ (by first | omega | (simp; done) | (simp; omega)) _ | with_reducible refine Below.drew ?_ | with_reducible refine belowDrewN ?_ _ | with_reducible refine Below.trans ?_ (Below.mono (by assumption) (by first | omega | (simp; done) | (simp; omega)))))))).mono ?_; rintro e wt ⟨to, tc, rfl, ht, hbt⟩; obtain ⟨_, _, et, htR, _, _⟩ := ht.read gcells_len; cases et) | (go_at_call 81; refine (lEqC n _ _ l _ _ hl2 _ (hzR7.below (by (repeat (first | with_reducible exact Below.refl _ _ | with_reducible assumption | with_reducible refine Below.setCell ?_ (by first | omega | (simp; done) | (simp; omega)) _ | with_reducible refine Below.alloc ?_ (by first | omega | (simp; done) | (simp; omega)) _ | with_reducible refine Below.drew ?_ | with_reducible refine belowDrewN ?_ _ | with_reducible refine Below.trans ?_ (Below.mono (by assumption) (by first | omega | (simp; done) | (simp; omega))))))) (by first | exact htR | exact htR.below (by (repeat (first | with_reducible exact Below.refl _ _ | with_reducible assumption | with_reducible refine Below.setCell ?_ (by first | omega | (simp; done) | (simp; omega)) _ | with_reducible refine Below.alloc ?_ (by first | omega | (simp; done) | (simp; omega)) _ | with_reducible refine Below.drew ?_ | with_reducible refine belowDrewN ?_ _ | with_reducible refine Below.trans ?_ (Below.mono (by assumption) (by first | omega | (simp; done) | (simp; omega)))))))).mono ?_; rintro e we ⟨rfl, hbe⟩))
    have hwe : Below w7.heap.size w7 we := And.left (by assumption)
    have hse := hwe.size
    have hBe : Below w3.heap.size w3 we := hB7.trans (hwe.mono (by omega))
    have hge := hg7.below hwe (Nat.le_refl _)
    have hxe := hx7.below hwe (Nat.le_refl _)
    have hXe := hX7.below hwe hX7.lt
    obtain ⟨cXe, fXe, sXe⟩ := hXe.facts
    clear hB7 hg7 hx7 hX7 cX fX sX hbt hbe ht htR hzR7 c7 hla7 hlt7
    go_wp2_with fail
    refine (lMarkC _ n zo l zc 1 (by decide) hl2 _ hxe).mono ?_
    rintro e w12 ⟨rfl, hr12⟩
    have hs12 := hr12.size
    have hg12 := hge.frame (fun k h1 h2 => hr12.block k h2 (fun e => by have := hx0b.out k e.symm; omega))
    have hB12 : Below w3.heap.size w3 w12 := hBe.grown hr12 (by omega) (fun k hk => (hx0b.out k hk).1)
    obtain ⟨_, _, e12, hgR12, _, _⟩ := hg12.read
    cases e12
    clear hr12 hBe hxe hge hx0b hXe cXe fXe sXe
    obtain ⟨q0, hq0⟩ : ∃ q0 : Nat, q0 = 1 + 4 * l.length := ⟨_, rfl⟩
    rw [← hq0]
    clear hq0
    go_wp2_with fail
    refine (lEqSS _ _ R1 _ _ hz _ hgR12 (hyR.below hB12)).mono ?_
    rintro e w14 ⟨rfl, hb14⟩
    have hs14 := hb14.size
    have hB14 : Below w3.heap.size w3 w14 := hB12.trans (hb14.mono (by omega))
    have hg14 := hg12.below hb14 (Nat.le_refl _)
    clear hb14 hB12 hg12 hgR12
    go_wp2_with fail
    refine (lMarkSS _ _ R1 1 (by decide) hr1 HZ.out _ hg14 (by omega)).mono ?_
    rintro e w15 ⟨rfl, hg15, hr15⟩
    have hs15 := hr15.size
    have hB15 : Below w3.heap.size w3 w15 := hB14.trans (hr15.mono (by omega))
    obtain ⟨_, _, e15, hgR15, _, _⟩ := hg15.read
    rw [mkMP_length] at e15
    cases e15
    clear hr15 hB14 hg15 hg14
    obtain ⟨q2, hq2⟩ : ∃ q2 : Nat, q2 = 1 + 5 * off R1 R1.length := ⟨_, rfl⟩
    have HQ2 := Lib.hid hq2
    have hqb : q2 ≤ 1000000 := by omega
    rw [← hq2]
    clear hq2 hof
    have hneq : ((q2 : Int) != (q2 : Int)) = false := by simp
    go_wp2_with fail
    refine (lHeldSS _ _ R1 1 (by decide) hr1 HZ.out _ hgR15).mono ?_
    rintro e _ ⟨rfl, rfl⟩
    rw [← HQ2.out]
    have c15 := facts w15 (hb03.trans (hB15.mono hs3))
    have hl15 := hla.below (hb03.trans (hB15.mono hs3))
    go_wp2_with fail
    refine (lToC n _ l _ hl2 _ hl15).mono ?_
    rintro e w16 ⟨ro, rc, rfl, ht, hb16⟩
    have hs16 := hb16.size
    obtain ⟨_, _, et, htR, _, _⟩ := ht.read gcells_len
    cases et
    go_wp2_with fail
    refine (hI _ _ _ htR).mono ?_
    rintro e w18 ⟨hv, rfl, hh18, hb18⟩
    have hs18 := hb18.size
    obtain ⟨ho, hc, rfl, hhR, _, _⟩ := hh18.read
    have hC18 : Below w15.heap.size w15 w18 := hb16.trans (hb18.mono hs16)
    clear hb18 hb16 ht htR hh18
    go_wp2_with fail
    refine (lEqSS _ _ R1 _ _ hz _ hhR (hyR.below (hB15.trans (hC18.mono (by omega))))).mono ?_
    rintro e w19 ⟨rfl, hb19⟩
    have hs19 := hb19.size
    have hC19 : Below w15.heap.size w15 w19 := hC18.trans (hb19.mono (by omega))
    clear hb19 hC18 hhR
    go_wp2_with fail
    refine (lHeldSS _ _ R1 1 (by decide) hr1 HZ.out _ (hgR15.below hC19)).mono ?_
    rintro e _ ⟨rfl, rfl⟩
    rw [← HQ2.out]
    have hfinal : Below w.heap.size w w19 := hb0.trans ((hb03.trans ((hB15.trans (hC19.mono (by omega))).mono hs3)).mono hs0)
    clear facts c15 hC19 hB15 hl15
    go_wp2
    go_ret
    exact ⟨rfl, hfinal⟩

end Go.Proofs.Yteckhaafdojoeaa
