/- The product of a matrix and a state (spec). -/
import Derived.Test.YteckhaafdojoeaaM5
namespace Go.Proofs.Yteckhaafdojoeaa
open Go.RowKit

theorem OwnS.empty' {w : World} {base g : Nat} (hg : g = w.heap.size) (hb : base ≤ w.heap.size) : OwnS (w.alloc (.cells #[] TD)) base (.slice (some ⟨g, 0, none⟩) 0 0) [] := hg ▸ OwnS.empty hb
theorem OwnM.empty' {w : World} {base g : Nat} (hg : g = w.heap.size) (hb : base ≤ w.heap.size) : OwnM (w.alloc (.cells #[] TS)) base (.slice (some ⟨g, 0, none⟩) 0 0) [] := hg ▸ OwnM.empty hb

theorem sRowV (ao bo : Option Addr) (u v : List DO) (cu cv : Nat) (hn : u.length ≤ 1000000000) (hn' : v.length ≤ 1000000000) (huv : u.length ≤ v.length) (hku : okS u = true) (hkv : okS v = true) (w : World) (hu : StR w ao u) (hv : StR w bo v) :
    Calls Try.prog 181 #[.slice ao u.length cu, .slice bo v.length cv] w fun e w' => e = .returned (.tuple #[Dv (dot u v).1, .bool (dot u v).2]) ∧ Below w.heap.size w w' := by
  have h := sRow ao bo u v cu cv hn hn' huv w hu hv
  rw [row_eq hku hkv] at h
  exact h

set_option maxHeartbeats 4000000 in
theorem sApplyMatrix (ao bo : Option Addr) (m : List (List DO)) (v : List DO) (cm cv : Nat) (hz : SzM m) (hv : v.length ≤ 2000000) (w : World) (h : MtR w ao m) (h' : StR w bo v) :
    Calls Try.prog 143 #[.slice ao m.length cm, .slice bo v.length cv] w fun e w' => ∃ x, e = .returned (.tuple #[x, .bool (applyM m v).2]) ∧ OwnS w' w.heap.size x (applyM m v).1 ∧ Below w.heap.size w w' := by
  obtain ⟨iD, hiD, hzD0, hzD1, hzD2⟩ := info_parts infoD
  by_cases hm : okM m = true
  · by_cases hs : okS v = true
    · by_cases hl : m.length = v.length
      · have hl' : ((m.length : Int) != (v.length : Int)) = false := by simp [hl]
        have hrl := fun r hr => (okM_rows (r := r) hm hr).1
        have hml := okM_len hm
        have HL := Lib.hid hl
        have HR := Lib.hid hrl
        clear hl hrl
        go_enter Try.func143, Try.ntmps143
        go_wp2_with fail
        refine (sIsValidMatrix _ _ _ hz _ h).mono ?_
        rintro e w1 ⟨rfl, hb1⟩
        have hs1 := hb1.size
        go_wp2_with fail
        refine (sIsValidState _ _ _ (by omega) _ (h'.below hb1)).mono ?_
        rintro e w2 ⟨rfl, hb2⟩
        have hs2 := hb2.size
        have hb3 : Below w.heap.size w w2 := hb1.trans (hb2.mono hb1.size)
        have hs3 := hb3.size
        clear hb1 hb2 hs1 hs2
        go_wp2
        go_loopw [6, 7] (fun r x wr => ∃ j : Nat, x = .int .i64 j ∧ j ≤ m.length ∧ Hid (∀ i (hi : i < m.length), i < j → (fun r => (dot r v).2) m[i] = true) ∧ OwnS wr w.heap.size r ((m.map fun r => (dot r v).1).take j) ∧ Below w.heap.size w wr) (fun _ x _ => m.length - (intOf x).toNat)
        case atStart => exact ⟨0, rfl, Nat.zero_le _, fun _ _ h => absurd h (Nat.not_lt_zero _), OwnS.empty hs3, by (repeat (first | with_reducible exact Below.refl _ _ | with_reducible assumption | with_reducible refine Below.setCell ?_ (by first | omega | (simp; done) | (simp; omega)) _ | with_reducible refine Below.alloc ?_ (by first | omega | (simp; done) | (simp; omega)) _ | with_reducible refine Below.drew ?_ | with_reducible refine belowDrewN ?_ _ | with_reducible refine Below.trans ?_ (Below.mono (by assumption) (by first | omega | (simp; done) | (simp; omega)))))⟩
        case round =>
          obtain ⟨j, rfl, h0, hinv, hS, hb0⟩ := hrel
          have hs0 := hb0.size
          by_cases hj : j < m.length
          · obtain ⟨b, o, rfl, hlt, ro, rc, hcell, hR⟩ := (h.below hb0) j hj
            have hlj : m[j].length ≤ v.length := by have h1 := HR.out m[j] (List.getElem_mem _); have h2 := HL.out; omega
            have hz3 : m[j].length ≤ 1000000000 := by omega
            have hlen : ((m.map fun r => (dot r v).1).take j).length = j := by rw [List.length_take, List.length_map]; omega
            by_cases hd : (dot m[j] v).2 = true
            · go_wp2_with fail
              refine (sRowV _ _ _ _ _ _ hz3 (by omega) hlj (okM_rows hm (List.getElem_mem _)).2 hs _ hR (h'.below hb0)).mono ?_
              rintro e w4 ⟨rfl, hb4⟩
              have hS4 := hS.below hb4 (Nat.le_refl _)
              have hb5 : Below w.heap.size w w4 := hb0.trans (hb4.mono hs0)
              have hs5 := hb5.size
              clear hS hcell h h'
              go_wp2_with (first | (at_builtin; refine wpList_append_own _ rfl _ _ 56 rfl w.heap.size TD iD _ 5 40 Try.underlying56 hiD hzD0 hzD1 hzD2 rfl (by decide) _ _ _ rfl (World.ownsRow.alloc (World.ownsRow.alloc hS4 _) _) ⟨w4.heap.size + 1, 0, none⟩ 1 1 (dcells (dot m[j] v).1) rfl rfl ?c1 ?c2 ?c3 ?c4 ?c5 ?_))
              case c1 => exact at_new' _ (dcells (dot m[j] v).1) _ (by simp)
              case c2 => exact dcells_one _
              case c3 => rw [hlen]; unfold maxLen; omega
              case c4 => rw [hlen]; omega
              case c5 => simp; omega
              intro v' w' hown' hgrow _
              have hS' : OwnS w' w.heap.size v' ((m.map fun r => (dot r v).1).take (j + 1)) := by
                rw [map_take_snoc _ _ _ hj]
                exact OwnS.snoc (by rw [hlen]; exact hown')
              have hb' : Below w.heap.size w w' := ((hb5.alloc hs5 _).alloc (by simp; omega) _).grown hgrow (by simp; omega) fun k hk => (World.ownsRow.lt hS4 k hk).1
              clear hown' hgrow hS4
              go_wp2
              go_roundw
              case rel => exact ⟨j + 1, by go_num, by omega, all_step' (f := fun r => (dot r v).2) hinv.out hd, hS', hb'⟩
              case measure => simp [intOf]; omega
            · have hfin := Lib.hid (applyM_fail hm hs HL.out (all_not hj hd))
              go_wp2_with fail
              refine (sRowV _ _ _ _ _ _ hz3 (by omega) hlj (okM_rows hm (List.getElem_mem _)).2 hs _ hR (h'.below hb0)).mono ?_
              rintro e w4 ⟨rfl, hb4⟩
              have hs4 := hb4.size
              go_wp2
              go_ret2
              exact ⟨.slice (some ⟨_, 0, none⟩) 0 0, by rw [hfin.out]; rfl, by rw [hfin.out]; exact OwnS.empty' (by simp) (by first | omega | (simp; done) | (simp; omega)), by (repeat (first | with_reducible exact Below.refl _ _ | with_reducible assumption | with_reducible refine Below.setCell ?_ (by first | omega | (simp; done) | (simp; omega)) _ | with_reducible refine Below.alloc ?_ (by first | omega | (simp; done) | (simp; omega)) _ | with_reducible refine Below.drew ?_ | with_reducible refine belowDrewN ?_ _ | with_reducible refine Below.trans ?_ (Below.mono (by assumption) (by first | omega | (simp; done) | (simp; omega)))))⟩
          · have hfin := Lib.hid (applyM_yes hm hs HL.out (all_of (fun i hi => hinv.out i hi (by omega))))
            have hjm : j = m.length := by omega
            subst hjm
            have htk : (m.map fun r => (dot r v).1).take m.length = m.map fun r => (dot r v).1 := List.take_of_length_le (by simp)
            rw [htk] at hS
            go_wp2
            go_ret2
            have hS2 := hS
            rw [show (m.map fun r => (dot r v).1) = (applyM m v).1 by rw [hfin.out]] at hS2
            exact ⟨_, by rw [hfin.out]; rfl, hS2, by (repeat (first | with_reducible exact Below.refl _ _ | with_reducible assumption | with_reducible refine Below.setCell ?_ (by first | omega | (simp; done) | (simp; omega)) _ | with_reducible refine Below.alloc ?_ (by first | omega | (simp; done) | (simp; omega)) _ | with_reducible refine Below.drew ?_ | with_reducible refine belowDrewN ?_ _ | with_reducible refine Below.trans ?_ (Below.mono (by assumption) (by first | omega | (simp; done) | (simp; omega)))))⟩
      · have hl' : ((m.length : Int) != (v.length : Int)) = true := by simp; omega
        have hfin := Lib.hid (applyM_no (m := m) (v := v) (by simp [hl]))
        clear hl
        go_enter Try.func143, Try.ntmps143
        go_wp2_with fail
        refine (sIsValidMatrix _ _ _ hz _ h).mono ?_
        rintro e w1 ⟨rfl, hb1⟩
        have hs1 := hb1.size
        go_wp2_with fail
        refine (sIsValidState _ _ _ (by omega) _ (h'.below hb1)).mono ?_
        rintro e w2 ⟨rfl, hb2⟩
        have hs2 := hb2.size
        have hs1 := hb1.size
        go_wp2
        go_ret2
        exact ⟨.slice (some ⟨_, 0, none⟩) 0 0, by rw [hfin.out]; rfl, by rw [hfin.out]; exact OwnS.empty' (by simp) (by first | omega | (simp; done) | (simp; omega)), by (repeat (first | with_reducible exact Below.refl _ _ | with_reducible assumption | with_reducible refine Below.setCell ?_ (by first | omega | (simp; done) | (simp; omega)) _ | with_reducible refine Below.alloc ?_ (by first | omega | (simp; done) | (simp; omega)) _ | with_reducible refine Below.drew ?_ | with_reducible refine belowDrewN ?_ _ | with_reducible refine Below.trans ?_ (Below.mono (by assumption) (by first | omega | (simp; done) | (simp; omega)))))⟩
    · have hfin := Lib.hid (applyM_no (m := m) (v := v) (by simp [hs]))
      go_enter Try.func143, Try.ntmps143
      go_wp2_with fail
      refine (sIsValidMatrix _ _ _ hz _ h).mono ?_
      rintro e w1 ⟨rfl, hb1⟩
      have hs1 := hb1.size
      go_wp2_with fail
      refine (sIsValidState _ _ _ (by omega) _ (h'.below hb1)).mono ?_
      rintro e w2 ⟨rfl, hb2⟩
      have hs2 := hb2.size
      have hs1 := hb1.size
      go_wp2
      go_ret2
      exact ⟨.slice (some ⟨_, 0, none⟩) 0 0, by rw [hfin.out]; rfl, by rw [hfin.out]; exact OwnS.empty' (by simp) (by first | omega | (simp; done) | (simp; omega)), by (repeat (first | with_reducible exact Below.refl _ _ | with_reducible assumption | with_reducible refine Below.setCell ?_ (by first | omega | (simp; done) | (simp; omega)) _ | with_reducible refine Below.alloc ?_ (by first | omega | (simp; done) | (simp; omega)) _ | with_reducible refine Below.drew ?_ | with_reducible refine belowDrewN ?_ _ | with_reducible refine Below.trans ?_ (Below.mono (by assumption) (by first | omega | (simp; done) | (simp; omega)))))⟩
  · have hfin := Lib.hid (applyM_no (m := m) (v := v) (by simp [hm]))
    go_enter Try.func143, Try.ntmps143
    go_wp2_with fail
    refine (sIsValidMatrix _ _ _ hz _ h).mono ?_
    rintro e w1 ⟨rfl, hb1⟩
    have hs1 := hb1.size
    go_wp2
    go_ret2
    exact ⟨.slice (some ⟨_, 0, none⟩) 0 0, by rw [hfin.out]; rfl, by rw [hfin.out]; exact OwnS.empty' (by simp) (by first | omega | (simp; done) | (simp; omega)), by (repeat (first | with_reducible exact Below.refl _ _ | with_reducible assumption | with_reducible refine Below.setCell ?_ (by first | omega | (simp; done) | (simp; omega)) _ | with_reducible refine Below.alloc ?_ (by first | omega | (simp; done) | (simp; omega)) _ | with_reducible refine Below.drew ?_ | with_reducible refine belowDrewN ?_ _ | with_reducible refine Below.trans ?_ (Below.mono (by assumption) (by first | omega | (simp; done) | (simp; omega)))))⟩

end Go.Proofs.Yteckhaafdojoeaa
