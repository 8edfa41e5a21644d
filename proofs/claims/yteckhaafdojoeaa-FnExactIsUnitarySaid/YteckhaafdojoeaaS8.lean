/- The product of a matrix and a state; the product of two matrices. -/
import Derived.Test.YteckhaafdojoeaaS7
import Derived.Test.YteckhaafdojoeaaS3
namespace Go.Proofs.Yteckhaafdojoeaa
open Go.RowKit

def applyM (m : List (List DO)) (v : List DO) : List DO × Bool :=
  if okM m && (okS v && decide (m.length = v.length)) then (if m.all (fun r => (dot r v).2) then (m.map (fun r => (dot r v).1), true) else ([], false)) else ([], false)
def mulM (a b : List (List DO)) : List (List DO) × Bool :=
  if okM a && (okM b && decide (a.length = b.length)) then (if (flip b).all (fun c => (applyM a c).2) then (flip ((flip b).map fun c => (applyM a c).1), true) else ([], false)) else ([], false)

theorem qc_le {n : Nat} (h : ¬ qc n = 0) : n ≤ 16 := by
  unfold qc at h
  repeat' split at h
  all_goals omega
theorem okS_len {l : List DO} (h : okS l = true) : l.length ≤ 16 := by
  rw [okS, Bool.and_eq_true] at h
  exact qc_le (by simpa using h.1)
theorem okM_rows {m : List (List DO)} (h : okM m = true) {r : List DO} (hr : r ∈ m) : r.length = m.length ∧ okS r = true := by
  rw [okM, Bool.and_eq_true, List.all_eq_true] at h
  simpa using h.1 r hr
theorem okM_pos {m : List (List DO)} (h : okM m = true) : 0 < m.length := by
  rw [okM, Bool.and_eq_true] at h
  simpa using h.2
theorem okM_len {m : List (List DO)} (h : okM m = true) : m.length ≤ 16 := by
  have h0 := okM_pos h
  have := okM_rows h (List.getElem_mem h0)
  have := okS_len this.2
  omega
theorem all_step' {α : Type} {l : List α} {f : α → Bool} {j : Nat} (h : ∀ i (hi : i < l.length), i < j → f l[i] = true) {hj : j < l.length} (hx : f l[j] = true) : ∀ i (hi : i < l.length), i < j + 1 → f l[i] = true := fun i hi hij => by
  by_cases e : i = j
  · subst e; exact hx
  · exact h i hi (by omega)
theorem all_of {α : Type} {l : List α} {f : α → Bool} (h : ∀ i (hi : i < l.length), f l[i] = true) : l.all f = true := by
  rw [List.all_eq_true]
  intro x hx
  obtain ⟨i, hi, rfl⟩ := List.getElem_of_mem hx
  exact h i hi
theorem all_not {α : Type} {l : List α} {f : α → Bool} {j : Nat} (hj : j < l.length) (h : ¬ f l[j] = true) : l.all f = false := by
  rw [List.all_eq_false]
  exact ⟨l[j], List.getElem_mem _, h⟩
theorem map_take_snoc {α β : Type} (l : List α) (f : α → β) (j : Nat) (hj : j < l.length) : (l.map f).take (j + 1) = (l.map f).take j ++ [f l[j]] := by
  rw [List.take_succ_eq_append_getElem (by simpa using hj)]
  simp

theorem applyM_no {m : List (List DO)} {v : List DO} (h : (okM m && (okS v && decide (m.length = v.length))) = false) : applyM m v = ([], false) := by
  rw [applyM, h]; rfl
theorem applyM_fail {m : List (List DO)} {v : List DO} (h1 : okM m = true) (h2 : okS v = true) (h3 : m.length = v.length) (h : m.all (fun r => (dot r v).2) = false) : applyM m v = ([], false) := by
  rw [applyM, h1, h2, h, decide_eq_true h3]; rfl
theorem applyM_yes {m : List (List DO)} {v : List DO} (h1 : okM m = true) (h2 : okS v = true) (h3 : m.length = v.length) (h : m.all (fun r => (dot r v).2) = true) : applyM m v = (m.map (fun r => (dot r v).1), true) := by
  rw [applyM, h1, h2, h, decide_eq_true h3]; rfl
theorem at_new' (w : World) (xs : List Value) (t : TypeId) {b : Nat} (hb : b = w.heap.size) : ∀ j u, xs[j]? = some u → (w.alloc (.cells xs.toArray t)).cell? ((⟨b, 0, none⟩ : Addr).add j) = some u := hb ▸ at_new w xs t

set_option maxHeartbeats 4000000 in
theorem iApplyMatrix (ao bo : Option Addr) (m : List (List DO)) (v : List DO) (cm cv : Nat) (hz : SzM m) (hv : v.length ≤ 2000000) (w : World) (h : MtR w ao m) (h' : StR w bo v) :
    Calls Try.prog 71 #[.slice ao m.length cm, .slice bo v.length cv] w fun e w' => ∃ x, e = .returned (.tuple #[x, .bool (applyM m v).2]) ∧ OwnS w' w.heap.size x (applyM m v).1 ∧ Below w.heap.size w w' := by
  obtain ⟨iD, hiD, hzD0, hzD1, hzD2⟩ := info_parts infoD
  by_cases hm : okM m = true
  · by_cases hs : okS v = true
    · by_cases hl : m.length = v.length
      · have hl' : ((m.length : Int) != (v.length : Int)) = false := by simp [hl]
        have hrl := fun r hr => (okM_rows (r := r) hm hr).1
        have hml := okM_len hm
        have HL := Lib.hid hl
        have HR := Lib.hid hrl
        clear hl hrl
        go_enter Try.func71, Try.ntmps71
        go_wp2_with fail
        refine (iIsValidMatrix _ _ _ hz _ h).mono ?_
        rintro e w1 ⟨rfl, hb1⟩
        go_wp2_with fail
        refine (iIsValidState _ _ _ (by omega) _ (h'.below hb1)).mono ?_
        rintro e w2 ⟨rfl, hb2⟩
        have hb3 : Below w.heap.size w w2 := hb1.trans (hb2.mono hb1.size)
        have hs3 := hb3.size
        clear hb1 hb2
        go_wp2
        go_loopw [6, 29] (fun r x wr => ∃ j : Nat, x = .int .i64 j ∧ j ≤ m.length ∧ Hid (∀ i (hi : i < m.length), i < j → (fun r => (dot r v).2) m[i] = true) ∧ OwnS wr w.heap.size r ((m.map fun r => (dot r v).1).take j) ∧ Below w.heap.size w wr) (fun _ x _ => m.length - (intOf x).toNat)
        case atStart => exact ⟨0, rfl, Nat.zero_le _, fun _ _ h => absurd h (Nat.not_lt_zero _), OwnS.empty hs3, by (repeat (first | with_reducible exact Below.refl _ _ | with_reducible assumption | with_reducible refine Below.setCell ?_ (by first | omega | (simp; done) | (simp; omega)) _ | with_reducible refine Below.alloc ?_ (by first | omega | (simp; done) | (simp; omega)) _ | with_reducible refine Below.drew ?_ | with_reducible refine belowDrewN ?_ _ | with_reducible refine Below.trans ?_ (Below.mono (by assumption) (by first | omega | (simp; done) | (simp; omega)))))⟩
        case round =>
          obtain ⟨j, rfl, h0, hinv, hS, hb0⟩ := hrel
          have hs0 := hb0.size
          by_cases hj : j < m.length
          · obtain ⟨b, o, rfl, hlt, ro, rc, hcell, hR⟩ := (h.below hb0) j hj
            have hlj : m[j].length ≤ v.length := by have h1 := HR.out m[j] (List.getElem_mem _); have h2 := HL.out; omega
            have hz3 : m[j].length ≤ 1000000000 := by omega
            have hlen : ((m.map fun r => (dot r v).1).take j).length = j := by rw [List.length_take, List.length_map]; omega
            by_cases hd : (dot m[j] v).2 = true
            · go_wp2_with fail
              refine (iDot _ _ _ _ _ _ hz3 (by omega) hlj _ hR (h'.below hb0)).mono ?_
              rintro e w4 ⟨rfl, hb4⟩
              have hS4 := hS.below hb4 (Nat.le_refl _)
              have hb5 : Below w.heap.size w w4 := hb0.trans (hb4.mono hs0)
              have hs5 := hb5.size
              clear hS hcell h h'
              go_wp2_with (first | (at_builtin; refine wpList_append_own _ rfl _ _ 56 rfl w.heap.size TD iD _ 5 40 Try.underlying56 hiD hzD0 hzD1 hzD2 rfl (by decide) _ _ _ rfl (World.ownsRow.alloc (World.ownsRow.alloc hS4 _) _) ⟨w4.heap.size + 1, 0, none⟩ 1 1 (dcells (dot m[j] v).1) rfl rfl ?c1 ?c2 ?c3 ?c4 ?c5 ?_))
              case c1 => exact at_new' _ (dcells (dot m[j] v).1) _ (by simp)
              case c2 => exact dcells_one _
              case c3 => rw [hlen]; unfold maxLen; omega
              case c4 => rw [hlen]; omega
              case c5 => simp; omega
              intro v' w' hown' hgrow _
              have hS' : OwnS w' w.heap.size v' ((m.map fun r => (dot r v).1).take (j + 1)) := by
                rw [map_take_snoc _ _ _ hj]
                exact OwnS.snoc (by rw [hlen]; exact hown')
              have hb' : Below w.heap.size w w' := ((hb5.alloc hs5 _).alloc (by simp; omega) _).grown hgrow (by simp; omega) fun k hk => (World.ownsRow.lt hS4 k hk).1
              clear hown' hgrow hS4
              go_wp2
              go_roundw
              case rel => exact ⟨j + 1, by go_num, by omega, all_step' (f := fun r => (dot r v).2) hinv.out hd, hS', hb'⟩
              case measure => simp [intOf]; omega
            · have hfin := Lib.hid (applyM_fail hm hs HL.out (all_not hj hd))
              go_wp2_with fail
              refine (iDot _ _ _ _ _ _ hz3 (by omega) hlj _ hR (h'.below hb0)).mono ?_
              rintro e w4 ⟨rfl, hb4⟩
              have hs4 := hb4.size
              go_wp2
              go_ret2
              exact ⟨.slice none 0 0, by rw [hfin.out]; rfl, by rw [hfin.out]; exact OwnS.nil _ _, by (repeat (first | with_reducible exact Below.refl _ _ | with_reducible assumption | with_reducible refine Below.setCell ?_ (by first | omega | (simp; done) | (simp; omega)) _ | with_reducible refine Below.alloc ?_ (by first | omega | (simp; done) | (simp; omega)) _ | with_reducible refine Below.drew ?_ | with_reducible refine belowDrewN ?_ _ | with_reducible refine Below.trans ?_ (Below.mono (by assumption) (by first | omega | (simp; done) | (simp; omega)))))⟩
          · have hfin := Lib.hid (applyM_yes hm hs HL.out (all_of (fun i hi => hinv.out i hi (by omega))))
            have hjm : j = m.length := by omega
            subst hjm
            have htk : (m.map fun r => (dot r v).1).take m.length = m.map fun r => (dot r v).1 := List.take_of_length_le (by simp)
            rw [htk] at hS
            go_wp2
            go_ret2
            have hS2 := hS
            rw [show (m.map fun r => (dot r v).1) = (applyM m v).1 by rw [hfin.out]] at hS2
            exact ⟨_, by rw [hfin.out]; rfl, hS2, by (repeat (first | with_reducible exact Below.refl _ _ | with_reducible assumption | with_reducible refine Below.setCell ?_ (by first | omega | (simp; done) | (simp; omega)) _ | with_reducible refine Below.alloc ?_ (by first | omega | (simp; done) | (simp; omega)) _ | with_reducible refine Below.drew ?_ | with_reducible refine belowDrewN ?_ _ | with_reducible refine Below.trans ?_ (Below.mono (by assumption) (by first | omega | (simp; done) | (simp; omega)))))⟩
      · have hl' : ((m.length : Int) != (v.length : Int)) = true := by simp; omega
        have hfin := Lib.hid (applyM_no (m := m) (v := v) (by simp [hl]))
        clear hl
        go_enter Try.func71, Try.ntmps71
        go_wp2_with fail
        refine (iIsValidMatrix _ _ _ hz _ h).mono ?_
        rintro e w1 ⟨rfl, hb1⟩
        go_wp2_with fail
        refine (iIsValidState _ _ _ (by omega) _ (h'.below hb1)).mono ?_
        rintro e w2 ⟨rfl, hb2⟩
        have hs1 := hb1.size
        go_wp2
        go_ret2
        exact ⟨.slice none 0 0, by rw [hfin.out]; rfl, by rw [hfin.out]; exact OwnS.nil _ _, by (repeat (first | with_reducible exact Below.refl _ _ | with_reducible assumption | with_reducible refine Below.setCell ?_ (by first | omega | (simp; done) | (simp; omega)) _ | with_reducible refine Below.alloc ?_ (by first | omega | (simp; done) | (simp; omega)) _ | with_reducible refine Below.drew ?_ | with_reducible refine belowDrewN ?_ _ | with_reducible refine Below.trans ?_ (Below.mono (by assumption) (by first | omega | (simp; done) | (simp; omega)))))⟩
    · have hfin := Lib.hid (applyM_no (m := m) (v := v) (by simp [hs]))
      go_enter Try.func71, Try.ntmps71
      go_wp2_with fail
      refine (iIsValidMatrix _ _ _ hz _ h).mono ?_
      rintro e w1 ⟨rfl, hb1⟩
      go_wp2_with fail
      refine (iIsValidState _ _ _ (by omega) _ (h'.below hb1)).mono ?_
      rintro e w2 ⟨rfl, hb2⟩
      have hs1 := hb1.size
      go_wp2
      go_ret2
      exact ⟨.slice none 0 0, by rw [hfin.out]; rfl, by rw [hfin.out]; exact OwnS.nil _ _, by (repeat (first | with_reducible exact Below.refl _ _ | with_reducible assumption | with_reducible refine Below.setCell ?_ (by first | omega | (simp; done) | (simp; omega)) _ | with_reducible refine Below.alloc ?_ (by first | omega | (simp; done) | (simp; omega)) _ | with_reducible refine Below.drew ?_ | with_reducible refine belowDrewN ?_ _ | with_reducible refine Below.trans ?_ (Below.mono (by assumption) (by first | omega | (simp; done) | (simp; omega)))))⟩
  · have hfin := Lib.hid (applyM_no (m := m) (v := v) (by simp [hm]))
    go_enter Try.func71, Try.ntmps71
    go_wp2_with fail
    refine (iIsValidMatrix _ _ _ hz _ h).mono ?_
    rintro e w1 ⟨rfl, hb1⟩
    go_wp2
    go_ret2
    exact ⟨.slice none 0 0, by rw [hfin.out]; rfl, by rw [hfin.out]; exact OwnS.nil _ _, by (repeat (first | with_reducible exact Below.refl _ _ | with_reducible assumption | with_reducible refine Below.setCell ?_ (by first | omega | (simp; done) | (simp; omega)) _ | with_reducible refine Below.alloc ?_ (by first | omega | (simp; done) | (simp; omega)) _ | with_reducible refine Below.drew ?_ | with_reducible refine belowDrewN ?_ _ | with_reducible refine Below.trans ?_ (Below.mono (by assumption) (by first | omega | (simp; done) | (simp; omega)))))⟩

end Go.Proofs.Yteckhaafdojoeaa
