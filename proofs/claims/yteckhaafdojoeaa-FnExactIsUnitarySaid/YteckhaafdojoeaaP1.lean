/- FnExactIsUnitary: the walk. -/
import Derived.Test.YteckhaafdojoeaaL4
namespace Go.Proofs.Yteckhaafdojoeaa
open Go.RowKit

set_option maxRecDepth 100000 in
set_option maxHeartbeats 4000000 in
theorem lExactIsUnitary (ao : Option Addr) (m : List (List DO)) (cap : Nat) (hn : m.length ≤ 9223372036854775807) (hr : ∀ r ∈ m, r.length ≤ 9223372036854775807) (w : World) (h : MtR w ao m) :
    Calls Try.prog 6 #[.slice ao m.length cap] w fun e w' => e = .returned (.bool true) ∧ Below w.heap.size w w' := by
  go_enter Try.func6, Try.ntmps6
  go_wp2_with fail
  refine (lSzSS _ m _ hn hr _ h).mono ?_
  rintro e _ ⟨r, rfl, rfl, hr⟩
  rcases hr with rfl | ⟨h0, hz⟩
  · go_wp2
    go_ret
    exact ⟨rfl, by (repeat (first | with_reducible exact Below.refl _ _ | with_reducible assumption | with_reducible refine Below.setCell ?_ (by first | omega | (simp; done) | (simp; omega)) _ | with_reducible refine Below.alloc ?_ (by first | omega | (simp; done) | (simp; omega)) _ | with_reducible refine Below.drew ?_ | with_reducible refine belowDrewN ?_ _ | with_reducible refine Below.trans ?_ (Below.mono (by assumption) (by first | omega | (simp; done) | (simp; omega)))))⟩
  · have hz' := hz
    obtain ⟨hz1, hz2⟩ := hz'
    have HZ := Lib.hid hz
    clear hz hz2
    go_wp2_with fail
    refine (lToSS _ m _ HZ.out _ h).mono ?_
    rintro e w1 ⟨x, rfl, hx, hb1⟩
    have hs1 := hb1.size
    obtain ⟨xo, xc, rfl, hxR, _, _⟩ := hx.read
    clear hx
    go_wp2_with fail
    refine (sIsUnitary _ m _ HZ.out _ hxR).mono ?_
    rintro e w2 ⟨rfl, hb2⟩
    have hb12 : Below w.heap.size w w2 := hb1.trans (hb2.mono hs1)
    have hs2 := hb12.size
    clear hb1 hb2 hs1 hxR
    go_wp2_with fail
    refine (lToSS _ m _ HZ.out _ (h.below hb12)).mono ?_
    rintro e w3 ⟨y, rfl, hy, hb3⟩
    have hs3 := hb3.size
    have hb13 : Below w.heap.size w w3 := hb12.trans (hb3.mono hs2)
    have hs13 := hb13.size
    obtain ⟨yo, yc, rfl, hyR, _, _⟩ := hy.read
    clear hb3 hb12 hs2 hs3 hy
    go_wp2_with fail
    refine (iIsUnitary _ m _ HZ.out _ hyR).mono ?_
    rintro e w4 ⟨rfl, hb4⟩
    have hs4 := hb4.size
    have hyR4 := hyR.below hb4
    have hb14 : Below w.heap.size w w4 := hb13.trans (hb4.mono hs13)
    have hs14 := hb14.size
    obtain ⟨u, hu⟩ : ∃ u, u = unitary m := ⟨_, rfl⟩
    rw [← hu]
    clear hu hb13 hb4 hs4 hyR hs13
    have hbu : (u != u) = false := by cases u <;> rfl
    go_wp2_with fail
    refine (lToSS _ m _ HZ.out _ (h.below hb14)).mono ?_
    rintro e w5 ⟨z, rfl, hz, hb5⟩
    have hs5 := hb5.size
    obtain ⟨zo, zc, rfl, hzR, _, _⟩ := hz.read
    clear hz
    go_wp2_with fail
    refine (lEqSS _ _ m _ _ HZ.out _ (hyR4.below hb5) hzR).mono ?_
    rintro e w6 ⟨rfl, hb6⟩
    have hb16 : Below w.heap.size w w6 := (hb14.trans (hb5.mono hs14)).trans (hb6.mono (by omega))
    go_wp2
    go_ret
    exact ⟨rfl, hb16⟩

end Go.Proofs.Yteckhaafdojoeaa
