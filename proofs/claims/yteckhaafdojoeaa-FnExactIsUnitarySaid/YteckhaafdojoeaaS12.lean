/- The walk of impl.AdjointMatrix. -/
import Derived.Test.YteckhaafdojoeaaS11
namespace Go.Proofs.Yteckhaafdojoeaa
open Go.RowKit

theorem adjM_no {m : List (List DO)} (h : ¬ okM m = true) : adjM m = [] := by rw [adjM, if_neg h]
theorem adjM_yes {m : List (List DO)} (h : okM m = true) : adjM m = (flip m).map (fun r => r.map conjD) := by rw [adjM, if_pos h]
theorem adjP_rowlen {m : List (List DO)} {k j i n : Nat} (hr : ∀ r ∈ m, r.length = n) (hi : i < (adjP m k j).length) : ((adjP m k j)[i]).length = n := by
  have hi' : i < m.length := by simpa [adjP] using hi
  have := hr m[i] (List.getElem_mem _)
  simp only [adjP, List.getElem_mapIdx]
  repeat' split
  all_goals simp [this]
/-- The same, with the value's shape known. -/
theorem OwnM.at' {w : World} {base n oc : Nat} {ob : Nat} {m : List (List DO)} (h : OwnM w base (.slice (some ⟨ob, 0, none⟩) n oc) m) {k j : Nat} (hk : k < m.length) (hj : j < m[k].length) :
    ∃ g c, base ≤ g ∧ g < w.heap.size ∧ ob < w.heap.size ∧ ob ≠ g ∧ w.cell? ⟨ob, k, none⟩ = some (.slice (some ⟨g, 0, none⟩) m[k].length c) ∧ DAt w g (j * 5) m[k][j] ∧
      (∀ o, w.frozen? ⟨g, o, none⟩ = false) ∧ ∀ w2 x, Below w.heap.size w w2 → OwnM (setD w2 g j x) base (.slice (some ⟨ob, 0, none⟩) n oc) (m.set k (m[k].set j x)) := by
  obtain ⟨ob', oc', g, c, hv, h1, h2, h3, h4, h5, h6, h7, h8⟩ := h.at hk hj
  cases hv
  exact ⟨g, c, h1, h2, h3, h4, h5, h6, h7, h8⟩

theorem adjP_elem {m : List (List DO)} {k j : Nat} (hk : k < m.length) (hj : j < m[k].length) (h1 : k < (adjP m k j).length) (h2 : j < ((adjP m k j)[k]).length) : ((adjP m k j)[k])[j] = m[k][j] := by
  simp [adjP]

set_option maxHeartbeats 8000000 in
theorem iAdjointMatrix (ao : Option Addr) (m : List (List DO)) (cap : Nat) (hz : SzM m) (w : World) (h : MtR w ao m) :
    Calls Try.prog 26 #[.slice ao m.length cap] w fun e w' => ∃ v, e = .returned v ∧ OwnM w' w.heap.size v (adjM m) ∧ Below w.heap.size w w' := by
  by_cases hm : okM m = true
  · have hml := okM_len hm
    have hm0 := okM_pos hm
    have hfin := Lib.hid (adjM_yes hm)
    have hrl : ∀ r ∈ flip m, r.length = m.length := fun r hr => mem_flip_length hr
    have hFl := flip_length m
    go_enter Try.func26, Try.ntmps26
    go_wp2_with fail
    refine (iIsValidMatrix _ _ _ hz _ h).mono ?_
    rintro e w1 ⟨rfl, hb1⟩
    have hs1 := hb1.size
    go_wp2_with fail
    refine (iFlipped _ m _ (by omega) (fun r hr => by have := (okM_rows hm hr).1; omega) _ (h.below hb1)).mono ?_
    rintro e w2 ⟨fv, rfl, hF, hb2⟩
    have hb3 : Below w.heap.size w w2 := hb1.trans (hb2.mono hs1)
    have hF2 := hF.mono hs1
    generalize hFF : flip m = F at *
    have hF00 : 0 < F.length := by omega
    obtain ⟨ob, oc, _, _, rfl, -⟩ := hF2.at hF00 (show 0 < F[0].length by rw [hrl _ (List.getElem_mem _)]; exact hm0)
    rw [hFl] at hF2 ⊢
    generalize hN : m.length = n at *
    have HL := Lib.hid hFl
    have HR := Lib.hid hrl
    have HF := Lib.hid hFF
    clear hFl hrl hFF hF hb1 hb2 hF00 h hN
    go_wp2
    go_loopw [13] (fun x wr => ∃ k : Nat, x = .int .i64 k ∧ k ≤ n ∧ OwnM wr w.heap.size (.slice (some ⟨ob, 0, none⟩) n oc) (adjP F k 0) ∧ Below w.heap.size w wr) (fun x _ => n - (intOf x).toNat)
    case atStart => exact ⟨0, rfl, Nat.zero_le _, by rw [adjP_zero]; exact hF2, hb3⟩
    case round =>
      obtain ⟨k, rfl, h0, hM, hb0⟩ := hrel
      have hs0 := hb0.size
      by_cases hk : k < n
      · have hkF : k < F.length := by rw [HL.out]; exact hk
        have hkA : ∀ j, k < (adjP F k j).length := fun j => by rw [adjP_length]; exact hkF
        have hrow : ∀ j, ((adjP F k j)[k]'(hkA j)).length = n := fun j => adjP_rowlen HR.out (hkA j)
        obtain ⟨g0, c0, hg1, hg2, hg3, hg4, hg5, -⟩ := hM.at' (hkA 0) (show 0 < _ by rw [hrow]; exact hm0)
        rw [hrow] at hg5
        obtain ⟨wo, rfl⟩ : ∃ wo : World, wo = wr := ⟨_, rfl⟩
        have hrow' := Lib.hid hrow
        clear hrow
        go_wp2
        go_loopw [21] (fun x wi => ∃ j : Nat, x = .int .i64 j ∧ j ≤ n ∧ OwnM wi w.heap.size (.slice (some ⟨ob, 0, none⟩) n oc) (adjP F k j) ∧ Below w.heap.size w wi) (fun x _ => n - (intOf x).toNat)
        case atStart => exact ⟨0, rfl, Nat.zero_le _, hM, hb0⟩
        case round =>
          obtain ⟨j, rfl, j0, hM2, hb4⟩ := hrel
          have hs4 := hb4.size
          by_cases hj : j < n
          · obtain ⟨g, c, q1, q2, q3, q4, q5, hD, q7, q8⟩ := hM2.at' (hkA j) (show j < _ by rw [hrow'.out]; exact hj)
            rw [hrow'.out] at q5
            have hjF : j < F[k].length := by rw [HR.out F[k] (List.getElem_mem _)]; exact hj
            have hstep := adjP_step hkF hjF
            have hx := adjP_elem (j := j) hkF hjF (hkA j) (by rw [hrow'.out]; exact hj)
            obtain ⟨x, hxe⟩ : ∃ x, x = F[k][j] := ⟨_, rfl⟩
            rw [← hxe] at hstep hx
            have q9 := fun w2 hb => q8 w2 (conjD x) hb
            rw [hstep] at q9
            rw [hx] at hD
            have q8' := Lib.hid q9
            obtain ⟨d0, d1, d2, d3, d4⟩ := hD
            clear q8 q9 hM2 hM hx hstep hxe hg5
            go_wp2
            go_region_with (first | (go_at_call 107; refine (iConjD' x _).mono ?_; rintro e wa ⟨rfl, hb⟩; obtain ⟨hc, hf, hz⟩ := bcell hb; (try simp only [World.size_drew, World.cell?_drew, World.frozen?_drew] at hc hf hz); (try simp at hz); (try have kk := fun o => hc (ob) o (by first | omega | (simp; done) | (simp; omega))); (try have kf := fun o => hf (ob) o (by first | omega | (simp; done) | (simp; omega))); (try have zz : ob < wa.heap.size := by omega); (try have kk := fun o => hc (g) o (by first | omega | (simp; done) | (simp; omega))); (try have kf := fun o => hf (g) o (by first | omega | (simp; done) | (simp; omega))); (try have zz : g < wa.heap.size := by omega)))
            all_goals go_wp2
            all_goals go_roundw
            all_goals first
              | exact ⟨j + 1, by go_num, by omega, q8'.out _ (by (repeat (first | with_reducible exact Below.refl _ _ | with_reducible assumption | with_reducible refine Below.setCell ?_ (by first | omega | (simp; done) | (simp; omega)) _ | with_reducible refine Below.alloc ?_ (by first | omega | (simp; done) | (simp; omega)) _ | with_reducible refine Below.drew ?_ | with_reducible refine belowDrewN ?_ _ | with_reducible refine Below.trans ?_ (Below.mono (by assumption) (by first | omega | (simp; done) | (simp; omega)))))), by (repeat (first | with_reducible exact Below.refl _ _ | with_reducible assumption | with_reducible refine Below.setCell ?_ (by first | omega | (simp; done) | (simp; omega)) _ | with_reducible refine Below.alloc ?_ (by first | omega | (simp; done) | (simp; omega)) _ | with_reducible refine Below.drew ?_ | with_reducible refine belowDrewN ?_ _ | with_reducible refine Below.trans ?_ (Below.mono (by assumption) (by first | omega | (simp; done) | (simp; omega)))))⟩
              | (simp [intOf]; omega)
          · have hjn : j = n := by omega
            subst hjn
            rw [adjP_next HR.out] at hM2
            go_wp2
            go_roundw
            case rel => exact ⟨k + 1, by go_num, by omega, hM2, hb4⟩
            case measure => simp [intOf]; omega
      · rw [adjP_end (by rw [HL.out]; omega)] at hM
        rw [← hfin.out] at hM
        go_wp2
        go_ret
        exact ⟨_, rfl, hM, hb0⟩
  · have hfin := Lib.hid (adjM_no hm)
    go_enter Try.func26, Try.ntmps26
    go_wp2_with fail
    refine (iIsValidMatrix _ _ _ hz _ h).mono ?_
    rintro e w1 ⟨rfl, hb1⟩
    go_wp2
    go_ret
    exact ⟨.slice none 0 0, rfl, by rw [hfin.out]; exact OwnM.nil _ _, by (repeat (first | with_reducible exact Below.refl _ _ | with_reducible assumption | with_reducible refine Below.setCell ?_ (by first | omega | (simp; done) | (simp; omega)) _ | with_reducible refine Below.alloc ?_ (by first | omega | (simp; done) | (simp; omega)) _ | with_reducible refine Below.drew ?_ | with_reducible refine belowDrewN ?_ _ | with_reducible refine Below.trans ?_ (Below.mono (by assumption) (by first | omega | (simp; done) | (simp; omega)))))⟩

end Go.Proofs.Yteckhaafdojoeaa
