/- FnRunGates: the walk. -/
import Derived.Test.YteckhaafdojoeaaP6z
import Derived.Test.YteckhaafdojoeaaGk
namespace Go.Proofs.Yteckhaafdojoeaa
open Go.RowKit BigFrame

theorem iApplyGates' (ao bo : Option Addr) (l : List GT) (v : List DO) (n m ca cv : Nat) (hnl : n = l.length) (hm : m = v.length) (hl : l.length ≤ 2000000) (hn : v.length ≤ 2000000) (w : World) (h : RdG w ao l) (h' : StR w bo v) :
    Calls Try.prog 59 #[.slice ao n ca, .slice bo m cv] w fun e w' => ∃ x, e = .returned (.tuple #[x, .bool (applyGs l v).2]) ∧ OwnS w' w.heap.size x (applyGs l v).1 ∧ Below w.heap.size w w' := by
  subst hnl
  subst hm
  exact iApplyGates ao bo l v ca cv hl hn w h h'

set_option maxRecDepth 100000 in
set_option maxHeartbeats 8000000 in
theorem lRunGates (ao : Option Addr) (l : List Int) (cap : Nat) (hn : l.length ≤ 9223372036854775807) (hu : ∀ x ∈ l, 0 ≤ x ∧ x < 256) (w : World) (h : RdU w ao l) :
    Calls Try.prog 11 #[.slice ao l.length cap] w fun e w' => e = .returned (.bool true) ∧ Below w.heap.size w w' := by
  by_cases hb : 1048576 < l.length
  · have hd : decide (1048576 < l.length) = true := by simpa using hb
    go_enter Try.func11, Try.ntmps11
    go_wp2_with fail
    refine (lBig ao l.length cap hn _).mono ?_
    rintro e _ ⟨rfl, rfl⟩
    go_wp2
    go_ret
    exact ⟨rfl, by (repeat (first | with_reducible exact Below.refl _ _ | with_reducible assumption | with_reducible refine Below.setCell ?_ (by first | omega | (simp; done) | (simp; omega)) _ | with_reducible refine Below.alloc ?_ (by first | omega | (simp; done) | (simp; omega)) _ | with_reducible refine Below.drew ?_ | with_reducible refine belowDrewN ?_ _ | with_reducible refine Below.trans ?_ (Below.mono (by assumption) (by first | omega | (simp; done) | (simp; omega)))))⟩
  · have hd : decide (1048576 < l.length) = false := by simpa using hb
    go_enter Try.func11, Try.ntmps11
    go_wp2_with fail
    refine (lBig ao l.length cap hn _).mono ?_
    rintro e _ ⟨rfl, rfl⟩
    go_wp2_with fail
    refine (dDrawApplyGates ao l cap (by omega) _ h).mono ?_
    rintro e w1 ⟨go, gs, gcap, v, p, rfl, hgs9, hp8, hG, hS, hb1⟩
    have hs1 := hb1.size
    obtain ⟨vo, vc, rfl, hvR, hvc, _⟩ := hS.read
    obtain ⟨_, _, e1, hgR, hgc, hgm⟩ := hG.read gcells_len
    cases e1
    have hgo : go = none ∧ gs.length = 0 ∧ gcap = 0 ∨ ∃ g, go = some ⟨g, 0, none⟩ := by
      by_cases h0 : 0 < gs.length
      · obtain ⟨g, e, _⟩ := hG.block h0
        exact .inr ⟨g, e⟩
      · rcases hG.2 with ⟨e, e0⟩ | ⟨g, _, _, e, _⟩
        · simp only [Value.slice.injEq] at e
          exact .inl ⟨e.1, e0, e.2.2⟩
        · simp only [Value.slice.injEq] at e
          exact .inr ⟨g, e.1⟩
    clear hG hS
    have hsp := fun h => applyGs_split (l := gs) (v := p) h
    have hR1 := applyGs_len' (l := gs) (v := p) (by omega)
    obtain ⟨R1, R2, hR⟩ : ∃ R1 R2, applyGs gs p = (R1, R2) := ⟨_, _, rfl⟩
    have hI := iApplyGates go vo gs p gcap vc (by omega) (by omega) w1 hgR hvR
    rw [hR] at hsp hI hR1
    dsimp only at hsp hI hR1
    go_wp2_with fail
    refine hI.mono ?_
    rintro e w2 ⟨x, rfl, hx, hb2⟩
    have hs2 := hb2.size
    obtain ⟨xo, xc, rfl, hxR, _, _⟩ := hx.read
    clear hx hI
    have hS2 := sApplyGates go vo gs p gcap vc (by omega) (by omega) w2 (hgR.below hb2) (hvR.below hb2)
    rw [hR] at hS2
    dsimp only at hS2
    go_wp2_with fail
    refine hS2.mono ?_
    rintro e w3 ⟨y, rfl, hy, hb3⟩
    have hs3 := hb3.size
    obtain ⟨yo, yc, rfl, hyR, _, _⟩ := hy.read
    have hne : (R2 != R2) = false := by cases R2 <;> rfl
    clear hy hS2
    go_wp2_with fail
    refine (sEqualState xo yo R1 R1 xc yc (by omega) (by omega) _ (hxR.below hb3) hyR).mono ?_
    rintro e w4 ⟨rfl, hb4⟩
    have hs4 := hb4.size
    rw [decide_eq_true rfl]
    have hb14 : Below w1.heap.size w1 w4 := (hb2.trans (hb3.mono hs2)).trans (hb4.mono (by omega))
    have hb24 : Below w2.heap.size w2 w4 := hb3.trans (hb4.mono hs3)
    have hxR4 := hxR.below hb24
    have hvR4 := hvR.below hb14
    have hgR4 := hgR.below hb14
    have hb04 : Below w.heap.size w w4 := hb1.trans (hb14.mono hs1)
    have hl4 : RdU w4 ao l := h.below hb04
    clear hb1 hb2 hb3 hb4 hb24 hb14 hxR hvR hgR hyR h
    go_wp2_with fail
    refine (lAt0 ao l cap (by omega) hu _ hl4).mono ?_
    rintro e _ ⟨q, rfl, hq, rfl⟩
    obtain ⟨k, hk, hkn⟩ : ∃ k : Nat, (q : Int) % ((gs.length : Int) + 1) = k ∧ k ≤ gs.length := ⟨q % (gs.length + 1), by simp, by have := Nat.mod_lt q (show 0 < gs.length + 1 by omega); omega⟩
    have hkc : k ≤ gcap := by omega
    have hRl : R1.length ≤ 2000000 := hR1
    have hA1 := applyGs_len' (l := gs.take k) (v := p) (by omega)
    have hT := iApplyGates' go vo (gs.take k) p k p.length gcap vc (by rw [List.length_take]; omega) rfl (by rw [List.length_take]; omega) (by omega) w4 (hgR4.take k) hvR4
    have hsp := fun h => hsp h k
    obtain ⟨A1, A2, hA⟩ : ∃ A1 A2, applyGs (gs.take k) p = (A1, A2) := ⟨_, _, rfl⟩
    rw [hA] at hT hA1 hsp
    dsimp only at hT hA1 hsp
    have hB1 := applyGs_len' (l := gs.drop k) (v := A1) (by omega)
    have hgd : ∃ go', RdG w4 go' (gs.drop k) ∧ ((go = none ∧ go' = none ∧ gcap = 0 ∧ k = 0 ∧ gs.length = 0) ∨ ∃ g, go = some ⟨g, 0, none⟩ ∧ go' = (if gcap = k then some ⟨g, 0, none⟩ else some ⟨g, k * 4, none⟩)) := by
      rcases hgo with ⟨rfl, e0, e1⟩ | ⟨g, rfl⟩
      · exact ⟨none, fun i hi => by rw [List.length_drop] at hi; omega, .inl ⟨rfl, rfl, e1, by omega, e0⟩⟩
      · refine ⟨_, ?_, .inr ⟨g, rfl, rfl⟩⟩
        by_cases hc : gcap = k
        · rw [if_pos hc]
          exact fun i hi => by rw [List.length_drop] at hi; omega
        · rw [if_neg hc]
          exact hgR4.drop k
    obtain ⟨go', hgd, hgo'⟩ := hgd
    have hD := fun (m : Nat) (hm : m = gs.length - k) (bo : Option Addr) (cm cb : Nat) (w : World) h h' => iApplyGates' go' bo (gs.drop k) A1 m A1.length cm cb (by rw [List.length_drop]; exact hm) rfl (by rw [List.length_drop]; omega) (by omega) w h h'
    obtain ⟨B1, B2, hB⟩ : ∃ B1 B2, applyGs (gs.drop k) A1 = (B1, B2) := ⟨_, _, rfl⟩
    rw [hB] at hD hB1 hsp
    dsimp only at hD hB1
    have hsp' : R2 = true → A2 = true ∧ B1 = R1 ∧ B2 = true := fun h => by
      obtain ⟨h1, h2⟩ := hsp h
      have h3 : B1 = R1 ∧ B2 = R2 := by simpa using h2
      exact ⟨h1, h3.1, h3.2.trans h⟩
    clear hR hA hB hsp hgR4
    have hcase : (go = none ∧ go' = none ∧ gcap = 0 ∧ k = 0 ∧ gs.length = 0) ∨ (∃ g, go = some ⟨g, 0, none⟩ ∧ gcap = k ∧ go' = some ⟨g, 0, none⟩) ∨ ∃ g, go = some ⟨g, 0, none⟩ ∧ ¬ gcap = k ∧ go' = some ⟨g, k * 4, none⟩ := by
      rcases hgo' with h | ⟨g, h1, h2⟩
      · exact .inl h
      · by_cases hc : gcap = k
        · rw [if_pos hc] at h2
          exact .inr (.inl ⟨g, h1, hc, h2⟩)
        · rw [if_neg hc] at h2
          exact .inr (.inr ⟨g, h1, hc, h2⟩)
    clear hgo' hgo
    have HT := Lib.hid hT
    have HD := Lib.hid hD
    have HS := Lib.hid hsp'
    have HRL := Lib.hid (show R1.length ≤ 1000000000 by omega)
    clear hT hD hsp' hR1 hRl hA1 hB1 hu hn hq hvR4 hl4
    rcases hcase with ⟨rfl, rfl, rfl, rfl, hg0⟩ | ⟨g, rfl, rfl, rfl⟩ | ⟨g, rfl, hc, rfl⟩
    · have hge := List.length_eq_zero_iff.1 hg0
      subst hge
      clear hk hkn hkc hg0 hgs9 hgc hgm
      have HG := Lib.hid hgd
      clear hgd
      go_wp2_with fail
      refine HT.out.mono ?_
      rintro e w5 ⟨x, rfl, hx, hb5⟩
      have hs5 := hb5.size
      obtain ⟨ao1, ac1, rfl, haR, _, _⟩ := hx.read
      have hgd5 := HG.out.below hb5
      clear hx HT HG
      go_wp2_with fail
      refine (HD.out _ rfl _ _ _ _ hgd5 haR).mono ?_
      rintro e w6 ⟨x, rfl, hx, hb6⟩
      have hs6 := hb6.size
      obtain ⟨bo1, bc1, rfl, hbR, _, _⟩ := hx.read
      have hxR6 := (hxR4.below hb5).below hb6
      have hb06 : Below w.heap.size w w6 := hb04.trans ((hb5.trans (hb6.mono hs5)).mono (by have := hb04.size; omega))
      clear hx HD hgd5 haR hb5 hb6 hb04 hxR4
      rcases R2 with _ | _
      · go_wp2
        go_ret
        exact ⟨rfl, hb06⟩
      · obtain ⟨rfl, rfl, rfl⟩ := HS.out rfl
        go_wp2_with fail
        refine (sEqualState bo1 xo B1 B1 bc1 xc HRL.out HRL.out _ hbR hxR6).mono ?_
        rintro e w7 ⟨rfl, hb7⟩
        rw [decide_eq_true rfl]
        go_wp2
        go_ret
        exact ⟨rfl, hb06.trans (hb7.mono (by have := hb06.size; omega))⟩
    all_goals go_wp2_with fail
    all_goals refine HT.out.mono ?_
    all_goals rintro e w5 ⟨x, rfl, hx, hb5⟩
    all_goals have hs5 := hb5.size
    all_goals obtain ⟨ao1, ac1, rfl, haR, _, _⟩ := hx.read
    all_goals have hgd5 := hgd.below hb5
    all_goals clear hx HT hgd
    all_goals go_wp2_with fail
    all_goals refine (HD.out _ (by omega) _ _ _ _ hgd5 haR).mono ?_
    all_goals rintro e w6 ⟨x, rfl, hx, hb6⟩
    all_goals have hs6 := hb6.size
    all_goals obtain ⟨bo1, bc1, rfl, hbR, _, _⟩ := hx.read
    all_goals have hxR6 := (hxR4.below hb5).below hb6
    all_goals have hb06 : Below w.heap.size w w6 := hb04.trans ((hb5.trans (hb6.mono hs5)).mono (by have := hb04.size; omega))
    all_goals clear hx HD hgd5 haR hb5 hb6 hb04 hxR4
    all_goals
      rcases R2 with _ | _
      · go_wp2
        go_ret
        exact ⟨rfl, hb06⟩
      · obtain ⟨rfl, rfl, rfl⟩ := HS.out rfl
        go_wp2_with fail
        refine (sEqualState bo1 xo B1 B1 bc1 xc HRL.out HRL.out _ hbR hxR6).mono ?_
        rintro e w7 ⟨rfl, hb7⟩
        rw [decide_eq_true rfl]
        go_wp2
        go_ret
        exact ⟨rfl, hb06.trans (hb7.mono (by have := hb06.size; omega))⟩

end Go.Proofs.Yteckhaafdojoeaa
