/- The product of two matrices (spec). -/
import Derived.Test.YteckhaafdojoeaaS17
namespace Go.Proofs.Yteckhaafdojoeaa
open Go.RowKit

set_option maxRecDepth 100000 in
set_option maxHeartbeats 4000000 in
theorem sMulMatrix (ao bo : Option Addr) (a b : List (List DO)) (ca cb : Nat) (hza : SzM a) (hzb : SzM b) (w : World) (h : MtR w ao a) (h' : MtR w bo b) :
    Calls Try.prog 73 #[.slice ao a.length ca, .slice bo b.length cb] w fun e w' => ∃ x, e = .returned (.tuple #[x, .bool (mulM a b).2]) ∧ OwnM w' w.heap.size x (mulM a b).1 ∧ Below w.heap.size w w' := by
  obtain ⟨iS, hiS, hzS0, hzS1, hzS2⟩ := info_parts infoS
  by_cases hA : okM a = true
  · by_cases hB : okM b = true
    · by_cases hl : a.length = b.length
      · have hl' : ((a.length : Int) != (b.length : Int)) = false := by simp [hl]
        have hbl := okM_len hB
        have hal := okM_len hA
        have HL := Lib.hid hl
        clear hl
        go_enter Try.func73, Try.ntmps73
        go_wp2_with fail
        refine (sIsValidMatrix _ _ _ hza _ h).mono ?_
        rintro e w1 ⟨rfl, hb1⟩
        have hs1 := hb1.size
        go_wp2_with fail
        refine (sIsValidMatrix _ _ _ hzb _ (h'.below hb1)).mono ?_
        rintro e w2 ⟨rfl, hb2⟩
        have hs2 := hb2.size
        have hb5 : Below w.heap.size w w2 := hb1.trans (hb2.mono hb1.size)
        have hs5 := hb5.size
        clear hb1 hb2 hs1 hs2
        have hrb : ∀ k, k < b.length → ∀ r ∈ b, k < r.length ∧ r.length ≤ 2000000 := fun k hk r hr => by have := (okM_rows hB hr).1; omega
        go_wp2
        go_loopw [6, 7] (fun r x wr => ∃ k : Nat, x = .int .i64 k ∧ k ≤ b.length ∧ Hid (∀ i (hi : i < (flip b).length), i < k → (fun c => (applyM a c).2) (flip b)[i] = true) ∧ OwnM wr w.heap.size r (((flip b).map fun c => (applyM a c).1).take k) ∧ Below w.heap.size w wr) (fun _ x _ => b.length - (intOf x).toNat)
        case atStart => exact ⟨0, rfl, Nat.zero_le _, fun _ _ h => absurd h (Nat.not_lt_zero _), OwnM.empty hs5, by (repeat (first | with_reducible exact Below.refl _ _ | with_reducible assumption | with_reducible refine Below.setCell ?_ (by first | omega | (simp; done) | (simp; omega)) _ | with_reducible refine Below.alloc ?_ (by first | omega | (simp; done) | (simp; omega)) _ | with_reducible refine Below.drew ?_ | with_reducible refine belowDrewN ?_ _ | with_reducible refine Below.trans ?_ (Below.mono (by assumption) (by first | omega | (simp; done) | (simp; omega)))))⟩
        case round =>
          obtain ⟨k, rfl, h0, hinv, hM, hb6⟩ := hrel
          have hs6 := hb6.size
          by_cases hk : k < b.length
          · have hlen : (((flip b).map fun c => (applyM a c).1).take k).length = k := by rw [List.length_take, List.length_map, flip_length]; omega
            have hk' : k < (flip b).length := by rw [flip_length]; exact hk
            have hget : (flip b)[k] = colAt b k := flip_get hk'
            have hsnoc := map_take_snoc (flip b) (fun c => (applyM a c).1) k hk'
            have hstep := fun (hd : (applyM a (colAt b k)).2 = true) => all_step' (f := fun c => (applyM a c).2) hinv.out (hj := hk') (by rw [hget]; exact hd)
            have hnot := fun (hd : ¬ (applyM a (colAt b k)).2 = true) => all_not (f := fun c => (applyM a c).2) hk' (by rw [hget]; exact hd)
            rw [hget] at hsnoc
            have HS := Lib.hid hsnoc
            have HT := Lib.hid hstep
            have HN := Lib.hid hnot
            clear hget hsnoc hstep hnot hk'
            go_wp2_with fail
            refine (sColumn _ b k _ (by omega) (hrb k hk) (by omega) _ (h'.below hb6)).mono ?_
            rintro e w3 ⟨c, rfl, hc, hb3⟩
            have hcl : (colAt b k).length ≤ 2000000 := by rw [colAt_length]; omega
            have hs3 := hb3.size
            obtain ⟨co, cc, rfl, hcR, _, _⟩ := hc.read
            by_cases hd : (applyM a (colAt b k)).2 = true
            · go_wp2_with fail
              refine (sApplyMatrix _ _ a (colAt b k) _ _ hza hcl _ ((h.below hb6).below hb3) hcR).mono ?_
              rintro e w7 ⟨x, rfl, hx, hb7⟩
              obtain ⟨vs, ho, hrows, hdist⟩ := hM
              have hb37 : Below wr.heap.size wr w7 := hb3.trans (hb7.mono hs3)
              have hb8 : Below w.heap.size w w7 := hb6.trans (hb37.mono hs6)
              have hs8 := hb8.size
              have hs7 := hb7.size
              have hx7 := hx.mono hs3
              obtain ⟨xo, xc, rfl, _, _, _⟩ := hx.read
              have ho1 := ownsRow_below ho hb37 (Nat.le_refl _)
              clear h h' hcR hc
              go_wp2_with (first | (at_builtin; refine wpList_append_own _ rfl _ _ 26 rfl w.heap.size TS iS _ 1 24 Try.underlying26 hiS hzS0 hzS1 hzS2 rfl (by decide) _ _ _ rfl (World.ownsRow.alloc ho1 _) ⟨w7.heap.size, 0, none⟩ 1 1 [.slice xo (applyM a (colAt b k)).1.length xc] rfl rfl ?c1 ?c2 ?c3 ?c4 ?c5 ?_))
              case c1 => exact at_new _ [Value.slice xo (applyM a (colAt b k)).1.length xc] _
              case c2 => exact slice_one _ _ _
              case c3 => rw [hlen]; unfold maxLen; omega
              case c4 => rw [hlen]; omega
              case c5 => simp; omega
              intro v' w' hown' hgrow _
              have hM' : OwnM w' w.heap.size v' (((flip b).map fun c => (applyM a c).1).take (k + 1)) := by
                rw [HS.out]
                exact OwnM.snoc hs6 ho hrows hdist hb37 hx7 (by rw [hlen]; exact hown') hgrow
              have hbb : Below w.heap.size w w' := (hb8.alloc hs8 _).grown hgrow (by simp; omega) fun g hg => (World.ownsRow.lt ho1 g hg).1
              clear hown' hgrow ho ho1 hrows hdist
              go_wp2
              go_roundw
              case rel => exact ⟨k + 1, by go_num, by omega, HT.out hd, hM', hbb⟩
              case measure => simp [intOf]; omega
            · have hfin := Lib.hid (mulM_fail hA hB HL.out (HN.out hd))
              go_wp2_with fail
              refine (sApplyMatrix _ _ a (colAt b k) _ _ hza hcl _ ((h.below hb6).below hb3) hcR).mono ?_
              rintro e w7 ⟨x, rfl, hx, hb7⟩
              have hs7 := hb7.size
              go_wp2
              go_ret2
              exact ⟨.slice (some ⟨_, 0, none⟩) 0 0, by rw [hfin.out]; rfl, by rw [hfin.out]; exact OwnM.empty' (by simp) (by first | omega | (simp; done) | (simp; omega)), by (repeat (first | with_reducible exact Below.refl _ _ | with_reducible assumption | with_reducible refine Below.setCell ?_ (by first | omega | (simp; done) | (simp; omega)) _ | with_reducible refine Below.alloc ?_ (by first | omega | (simp; done) | (simp; omega)) _ | with_reducible refine Below.drew ?_ | with_reducible refine belowDrewN ?_ _ | with_reducible refine Below.trans ?_ (Below.mono (by assumption) (by first | omega | (simp; done) | (simp; omega)))))⟩
          · have hkb : k = b.length := by omega
            subst hkb
            have hfin := Lib.hid (mulM_yes hA hB HL.out (all_of (fun i hi => hinv.out i hi (by rw [flip_length] at hi; omega))))
            have htk : ((flip b).map fun c => (applyM a c).1).take b.length = (flip b).map fun c => (applyM a c).1 := List.take_of_length_le (by rw [List.length_map, flip_length]; exact Nat.le_refl _)
            rw [htk] at hM
            obtain ⟨ro, rc, rfl, hR, _, _⟩ := hM.read
            have hcl : ((flip b).map fun c => (applyM a c).1).length = b.length := by rw [List.length_map, flip_length]
            have hrw : ∀ r ∈ (flip b).map (fun c => (applyM a c).1), ((flip b).map fun c => (applyM a c).1).length ≤ r.length ∧ r.length ≤ 2000000 := fun r hr => by
              obtain ⟨c, hc, rfl⟩ := List.mem_map.1 hr
              obtain ⟨i, hi, rfl⟩ := List.getElem_of_mem hc
              have h1 := applyM_length (m := a) (v := (flip b)[i]) (hinv.out i hi (by rw [flip_length] at hi; omega))
              have h2 := HL.out
              omega
            have hm := hfin.out
            clear hfin htk
            generalize (flip b).map (fun c => (applyM a c).1) = cols at *
            have hfin := Lib.hid hm
            have hcl' := Lib.hid hcl
            clear hcl hm
            go_wp2_with fail
            refine (sColumns _ cols _ (by rw [hcl'.out]; omega) hrw _ hR).mono ?_
            rintro e w7 ⟨x, rfl, hx, hb7⟩
            have hx2 := hx.mono hs6
            rw [show flip cols = (mulM a b).1 by rw [hfin.out]] at hx2
            go_wp2
            go_ret2
            exact ⟨_, by rw [hfin.out]; rfl, hx2, by (repeat (first | with_reducible exact Below.refl _ _ | with_reducible assumption | with_reducible refine Below.setCell ?_ (by first | omega | (simp; done) | (simp; omega)) _ | with_reducible refine Below.alloc ?_ (by first | omega | (simp; done) | (simp; omega)) _ | with_reducible refine Below.drew ?_ | with_reducible refine belowDrewN ?_ _ | with_reducible refine Below.trans ?_ (Below.mono (by assumption) (by first | omega | (simp; done) | (simp; omega)))))⟩
      · have hl' : ((a.length : Int) != (b.length : Int)) = true := by simp; omega
        have hfin := Lib.hid (mulM_no (a := a) (b := b) (by simp [hl]))
        clear hl
        go_enter Try.func73, Try.ntmps73
        go_wp2_with fail
        refine (sIsValidMatrix _ _ _ hza _ h).mono ?_
        rintro e w1 ⟨rfl, hb1⟩
        have hs1 := hb1.size
        go_wp2_with fail
        refine (sIsValidMatrix _ _ _ hzb _ (h'.below hb1)).mono ?_
        rintro e w2 ⟨rfl, hb2⟩
        have hs2 := hb2.size
        go_wp2
        go_ret2
        exact ⟨.slice (some ⟨_, 0, none⟩) 0 0, by rw [hfin.out]; rfl, by rw [hfin.out]; exact OwnM.empty' (by simp) (by first | omega | (simp; done) | (simp; omega)), by (repeat (first | with_reducible exact Below.refl _ _ | with_reducible assumption | with_reducible refine Below.setCell ?_ (by first | omega | (simp; done) | (simp; omega)) _ | with_reducible refine Below.alloc ?_ (by first | omega | (simp; done) | (simp; omega)) _ | with_reducible refine Below.drew ?_ | with_reducible refine belowDrewN ?_ _ | with_reducible refine Below.trans ?_ (Below.mono (by assumption) (by first | omega | (simp; done) | (simp; omega)))))⟩
    · have hfin := Lib.hid (mulM_no (a := a) (b := b) (by simp [hB]))
      go_enter Try.func73, Try.ntmps73
      go_wp2_with fail
      refine (sIsValidMatrix _ _ _ hza _ h).mono ?_
      rintro e w1 ⟨rfl, hb1⟩
      have hs1 := hb1.size
      go_wp2_with fail
      refine (sIsValidMatrix _ _ _ hzb _ (h'.below hb1)).mono ?_
      rintro e w2 ⟨rfl, hb2⟩
      have hs2 := hb2.size
      go_wp2
      go_ret2
      exact ⟨.slice (some ⟨_, 0, none⟩) 0 0, by rw [hfin.out]; rfl, by rw [hfin.out]; exact OwnM.empty' (by simp) (by first | omega | (simp; done) | (simp; omega)), by (repeat (first | with_reducible exact Below.refl _ _ | with_reducible assumption | with_reducible refine Below.setCell ?_ (by first | omega | (simp; done) | (simp; omega)) _ | with_reducible refine Below.alloc ?_ (by first | omega | (simp; done) | (simp; omega)) _ | with_reducible refine Below.drew ?_ | with_reducible refine belowDrewN ?_ _ | with_reducible refine Below.trans ?_ (Below.mono (by assumption) (by first | omega | (simp; done) | (simp; omega)))))⟩
  · have hfin := Lib.hid (mulM_no (a := a) (b := b) (by simp [hA]))
    go_enter Try.func73, Try.ntmps73
    go_wp2_with fail
    refine (sIsValidMatrix _ _ _ hza _ h).mono ?_
    rintro e w1 ⟨rfl, hb1⟩
    have hs1 := hb1.size
    go_wp2
    go_ret2
    exact ⟨.slice (some ⟨_, 0, none⟩) 0 0, by rw [hfin.out]; rfl, by rw [hfin.out]; exact OwnM.empty' (by simp) (by first | omega | (simp; done) | (simp; omega)), by (repeat (first | with_reducible exact Below.refl _ _ | with_reducible assumption | with_reducible refine Below.setCell ?_ (by first | omega | (simp; done) | (simp; omega)) _ | with_reducible refine Below.alloc ?_ (by first | omega | (simp; done) | (simp; omega)) _ | with_reducible refine Below.drew ?_ | with_reducible refine belowDrewN ?_ _ | with_reducible refine Below.trans ?_ (Below.mono (by assumption) (by first | omega | (simp; done) | (simp; omega)))))⟩

end Go.Proofs.Yteckhaafdojoeaa
