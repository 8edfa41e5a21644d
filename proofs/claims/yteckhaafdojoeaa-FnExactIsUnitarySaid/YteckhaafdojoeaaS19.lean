/- The adjoint matrix (spec). -/
import Derived.Test.YteckhaafdojoeaaS18
import Derived.Test.YteckhaafdojoeaaS12
namespace Go.Proofs.Yteckhaafdojoeaa
open Go.RowKit

def conjP (l : List DO) (j : Nat) : List DO := l.mapIdx fun q x => if q < j then conjD x else x
theorem conjP_length (l : List DO) (j : Nat) : (conjP l j).length = l.length := by simp [conjP]
theorem conjP_zero (l : List DO) : conjP l 0 = l := by
  apply List.ext_getElem (by simp [conjP])
  intro i h1 h2
  simp [conjP]
theorem conjP_end {l : List DO} {j : Nat} (h : l.length ≤ j) : conjP l j = l.map conjD := by
  apply List.ext_getElem (by simp [conjP])
  intro i h1 h2
  have : i < l.length := by simpa [conjP] using h1
  simp [conjP]
  omega
theorem conjP_elem {l : List DO} {j : Nat} (h : j < l.length) (h1 : j < (conjP l j).length) : (conjP l j)[j] = l[j] := by simp [conjP]
theorem conjP_step {l : List DO} {j : Nat} (h : j < l.length) : (conjP l j).set j (conjD l[j]) = conjP l (j + 1) := by
  apply List.ext_getElem (by simp [conjP])
  intro i h1 h2
  by_cases hi : i = j
  · subst hi
    simp [conjP]
  · rw [List.getElem_set_ne (by omega)]
    simp only [conjP, List.getElem_mapIdx]
    by_cases h3 : i < j
    · rw [if_pos h3, if_pos (by omega)]
    · rw [if_neg h3, if_neg (by omega)]

theorem OwnS.block {w : World} {base n cap : Nat} {ao : Option Addr} {l : List DO} (h : OwnS w base (.slice ao n cap) l) (h0 : 0 < l.length) : ∃ g, ao = some ⟨g, 0, none⟩ ∧ base ≤ g ∧ g < w.heap.size := by
  rcases h.2 with ⟨_, h1⟩ | ⟨g, cap, cur, hv, hbg, hg, r⟩
  · omega
  · cases hv
    exact ⟨g, rfl, hbg, (Array.getElem?_eq_some_iff.1 hg).1⟩
theorem OwnS.at {w : World} {base n cap g : Nat} {l : List DO} (h : OwnS w base (.slice (some ⟨g, 0, none⟩) n cap) l) {j : Nat} (hj : j < l.length) :
    DAt w g (j * 5) l[j] ∧ (∀ o, w.frozen? ⟨g, o, none⟩ = false) ∧ ∀ w2 x, Below w.heap.size w w2 → OwnS (setD w2 g j x) base (.slice (some ⟨g, 0, none⟩) n cap) (l.set j x) :=
  ⟨h.cells hj, h.frozen, fun _ x hb => (h.below hb (Nat.le_refl _)).set j hj x⟩

set_option maxRecDepth 100000 in
set_option maxHeartbeats 8000000 in
theorem sAdjointMatrix (ao : Option Addr) (m : List (List DO)) (cap : Nat) (hz : SzM m) (w : World) (h : MtR w ao m) :
    Calls Try.prog 76 #[.slice ao m.length cap] w fun e w' => ∃ v, e = .returned v ∧ OwnM w' w.heap.size v (adjM m) ∧ Below w.heap.size w w' := by
  obtain ⟨iS, hiS, hzS0, hzS1, hzS2⟩ := info_parts infoS
  by_cases hm : okM m = true
  · have hfin := Lib.hid (adjM_yes hm)
    have hml := okM_len hm
    have hrm := fun r hr => (okM_rows (r := r) hm hr).1
    have HRM := Lib.hid hrm
    clear hrm
    go_enter Try.func76, Try.ntmps76
    go_wp2
    go_loopw [3, 4] (fun v x wr => ∃ k : Nat, x = .int .i64 k ∧ k ≤ m.length ∧ OwnM wr w.heap.size v (((flip m).map fun r => r.map conjD).take k) ∧ Below w.heap.size w wr) (fun _ x _ => m.length - (intOf x).toNat)
    case atStart => exact ⟨0, rfl, Nat.zero_le _, OwnM.empty (Nat.le_refl _), by (repeat (first | with_reducible exact Below.refl _ _ | with_reducible assumption | with_reducible refine Below.setCell ?_ (by first | omega | (simp; done) | (simp; omega)) _ | with_reducible refine Below.alloc ?_ (by first | omega | (simp; done) | (simp; omega)) _ | with_reducible refine Below.drew ?_ | with_reducible refine belowDrewN ?_ _ | with_reducible refine Below.trans ?_ (Below.mono (by assumption) (by first | omega | (simp; done) | (simp; omega)))))⟩
    case round =>
      obtain ⟨k, rfl, h0, hM, hb0⟩ := hrel
      have hs0 := hb0.size
      by_cases hk : k < m.length
      · have hlen2 : (((flip m).map fun r => r.map conjD).take k).length = k := by rw [List.length_take, List.length_map, flip_length]; omega
        have hk' : k < (flip m).length := by rw [flip_length]; exact hk
        have hsnoc := map_take_snoc (flip m) (fun r => r.map conjD) k hk'
        rw [flip_get hk'] at hsnoc
        have HS := Lib.hid hsnoc
        clear hsnoc hk'
        go_wp2_with fail
        refine (sIsValidMatrix _ _ _ hz _ (h.below hb0)).mono ?_
        rintro e w1 ⟨rfl, hb1⟩
        have hs1 := hb1.size
        have hb01 : Below w.heap.size w w1 := hb0.trans (hb1.mono hs0)
        go_wp2_with fail
        refine (sColumn _ m k _ (by omega) (fun r hr => by have := HRM.out r hr; omega) (by omega) _ (h.below hb01)).mono ?_
        rintro e w7 ⟨x, rfl, hx, hb7⟩
        have hs7 := hb7.size
        have hb17 : Below wr.heap.size wr w7 := hb1.trans (hb7.mono hs1)
        have hx1 := hx.mono hs1
        have hcl : (colAt m k).length = m.length := colAt_length m k
        clear hx
        rw [← conjP_zero (colAt m k)] at hx1
        obtain ⟨xo, xc, rfl, _, _, _⟩ := hx1.read
        obtain ⟨g, rfl, hgb, hgs⟩ := hx1.block (by rw [conjP_length, hcl]; omega)
        rw [conjP_length] at hx1 ⊢
        have HC := Lib.hid hcl
        rw [hcl] at hx1 ⊢
        clear hcl
        obtain ⟨wo, rfl⟩ : ∃ wo : World, wo = wr := ⟨_, rfl⟩
        go_wp2
        go_loopw [6] (fun y wi => ∃ j : Nat, y = .int .i64 j ∧ j ≤ m.length ∧ OwnS wi wo.heap.size (.slice (some ⟨g, 0, none⟩) m.length xc) (conjP (colAt m k) j) ∧ Below wo.heap.size wo wi ∧ g < wi.heap.size) (fun y _ => m.length - (intOf y).toNat)
        case atStart => exact ⟨0, rfl, Nat.zero_le _, hx1, hb17, hgs⟩
        case round =>
          obtain ⟨j, rfl, j0, hS, hb4, hg4⟩ := hrel
          have hs4 := hb4.size
          by_cases hj : j < m.length
          · have hjF : j < (colAt m k).length := by rw [HC.out]; exact hj
            have hjP : j < (conjP (colAt m k) j).length := by rw [conjP_length]; exact hjF
            obtain ⟨hD, q7, q8⟩ := hS.at hjP
            have hstep := conjP_step hjF
            have hxe := conjP_elem hjF hjP
            obtain ⟨x, hx⟩ : ∃ x, x = (colAt m k)[j] := ⟨_, rfl⟩
            rw [← hx] at hstep hxe
            have q9 := fun w2 hb => q8 w2 (conjD x) hb
            rw [hstep] at q9
            rw [hxe] at hD
            have q8' := Lib.hid q9
            obtain ⟨d0, d1, d2, d3, d4⟩ := hD
            clear q8 q9 hS hM hx1 hstep hxe hx h
            go_wp2_with (go_at_call 146; refine (sConjD' x _).mono ?_; rintro e wa ⟨rfl, hb⟩; obtain ⟨hc, hf, hz⟩ := bcell hb; (try simp only [World.size_drew, World.cell?_drew, World.frozen?_drew] at hc hf hz); (try simp at hz); (try have kk := fun o => hc (g) o (by first | omega | (simp; done) | (simp; omega))); (try have kf := fun o => hf (g) o (by first | omega | (simp; done) | (simp; omega))); (try have zz : g < wa.heap.size := by omega))
            all_goals go_roundw
            all_goals first
              | exact ⟨j + 1, by go_num, by omega, q8'.out _ (by (repeat (first | with_reducible exact Below.refl _ _ | with_reducible assumption | with_reducible refine Below.setCell ?_ (by first | omega | (simp; done) | (simp; omega)) _ | with_reducible refine Below.alloc ?_ (by first | omega | (simp; done) | (simp; omega)) _ | with_reducible refine Below.drew ?_ | with_reducible refine belowDrewN ?_ _ | with_reducible refine Below.trans ?_ (Below.mono (by assumption) (by first | omega | (simp; done) | (simp; omega)))))), by (repeat (first | with_reducible exact Below.refl _ _ | with_reducible assumption | with_reducible refine Below.setCell ?_ (by first | omega | (simp; done) | (simp; omega)) _ | with_reducible refine Below.alloc ?_ (by first | omega | (simp; done) | (simp; omega)) _ | with_reducible refine Below.drew ?_ | with_reducible refine belowDrewN ?_ _ | with_reducible refine Below.trans ?_ (Below.mono (by assumption) (by first | omega | (simp; done) | (simp; omega))))), (by first | omega | (simp; done) | (simp; omega))⟩
              | (simp [intOf]; omega)
          · rw [conjP_end (by rw [HC.out]; omega)] at hS
            have hrl : ((colAt m k).map conjD).length = m.length := by rw [List.length_map, HC.out]
            obtain ⟨R, hR⟩ : ∃ R, R = (colAt m k).map conjD := ⟨_, rfl⟩
            rw [← hR] at hS hrl
            have HL := Lib.hid hrl
            clear hrl
            have HR := Lib.hid hR
            have hs5 := HS.out
            rw [← hR] at hs5
            have HS' := Lib.hid hs5
            obtain ⟨vs, ho, hrows, hdist⟩ := hM
            have hb8 : Below w.heap.size w wr := hb0.trans (hb4.mono hs0)
            have hs8 := hb8.size
            have ho1 := ownsRow_below ho hb4 (Nat.le_refl _)
            clear h hR hs5 HS
            go_wp2_with (first | (at_builtin; refine wpList_append_own _ rfl _ _ 26 rfl w.heap.size TS iS _ 1 24 Try.underlying26 hiS hzS0 hzS1 hzS2 rfl (by decide) _ _ _ rfl (World.ownsRow.alloc ho1 _) ⟨wr.heap.size, 0, none⟩ 1 1 [.slice (some ⟨g, 0, none⟩) m.length xc] rfl rfl ?c1 ?c2 ?c3 ?c4 ?c5 ?_))
            case c1 => exact at_new _ [Value.slice (some ⟨g, 0, none⟩) m.length xc] _
            case c2 => exact slice_one _ _ _
            case c3 => rw [hlen2]; unfold maxLen; omega
            case c4 => rw [hlen2]; omega
            case c5 => simp; omega
            intro v' w' hown' hgrow _
            have hM' : OwnM w' w.heap.size v' (((flip m).map fun r => r.map conjD).take (k + 1)) := by
              rw [HS'.out]
              exact OwnM.snoc hs0 ho hrows hdist hb4 hS (by rw [hlen2]; exact hown') hgrow
            have hbb : Below w.heap.size w w' := (hb8.alloc hs8 _).grown hgrow (by simp; omega) fun g hg => (World.ownsRow.lt ho1 g hg).1
            clear hown' hgrow ho ho1 hrows hdist
            go_wp2
            go_roundw
            case rel => exact ⟨k + 1, by go_num, by omega, hM', hbb⟩
            case measure => simp [intOf]; omega
      · have hkl : k = m.length := by omega
        subst hkl
        have hf : ((flip m).map fun r => r.map conjD).take m.length = (flip m).map fun r => r.map conjD := List.take_of_length_le (by rw [List.length_map, flip_length]; exact Nat.le_refl _)
        rw [hf, ← hfin.out] at hM
        go_wp2_with fail
        refine (sIsValidMatrix _ _ _ hz _ (h.below hb0)).mono ?_
        rintro e w1 ⟨rfl, hb1⟩
        go_wp2
        go_ret
        exact ⟨_, rfl, hM.below hb1 (Nat.le_refl _), by (repeat (first | with_reducible exact Below.refl _ _ | with_reducible assumption | with_reducible refine Below.setCell ?_ (by first | omega | (simp; done) | (simp; omega)) _ | with_reducible refine Below.alloc ?_ (by first | omega | (simp; done) | (simp; omega)) _ | with_reducible refine Below.drew ?_ | with_reducible refine belowDrewN ?_ _ | with_reducible refine Below.trans ?_ (Below.mono (by assumption) (by first | omega | (simp; done) | (simp; omega)))))⟩
  · have hfin := Lib.hid (adjM_no hm)
    go_enter Try.func76, Try.ntmps76
    go_wp2
    go_loopw [3, 4] (fun v x wr => x = .int .i64 0 ∧ OwnM wr w.heap.size v [] ∧ Below w.heap.size w wr) (fun _ x _ => 0)
    case atStart => exact ⟨rfl, OwnM.empty (Nat.le_refl _), by (repeat (first | with_reducible exact Below.refl _ _ | with_reducible assumption | with_reducible refine Below.setCell ?_ (by first | omega | (simp; done) | (simp; omega)) _ | with_reducible refine Below.alloc ?_ (by first | omega | (simp; done) | (simp; omega)) _ | with_reducible refine Below.drew ?_ | with_reducible refine belowDrewN ?_ _ | with_reducible refine Below.trans ?_ (Below.mono (by assumption) (by first | omega | (simp; done) | (simp; omega)))))⟩
    case round =>
      obtain ⟨rfl, hM, hb0⟩ := hrel
      have hs0 := hb0.size
      go_wp2_with fail
      refine (sIsValidMatrix _ _ _ hz _ (h.below hb0)).mono ?_
      rintro e w1 ⟨rfl, hb1⟩
      go_wp2
      go_ret
      exact ⟨_, rfl, by rw [hfin.out]; exact hM.below hb1 (Nat.le_refl _), by (repeat (first | with_reducible exact Below.refl _ _ | with_reducible assumption | with_reducible refine Below.setCell ?_ (by first | omega | (simp; done) | (simp; omega)) _ | with_reducible refine Below.alloc ?_ (by first | omega | (simp; done) | (simp; omega)) _ | with_reducible refine Below.drew ?_ | with_reducible refine belowDrewN ?_ _ | with_reducible refine Below.trans ?_ (Below.mono (by assumption) (by first | omega | (simp; done) | (simp; omega)))))⟩

end Go.Proofs.Yteckhaafdojoeaa
