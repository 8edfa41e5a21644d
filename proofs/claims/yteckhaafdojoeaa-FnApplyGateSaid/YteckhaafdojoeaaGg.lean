/- A look-up in a map with boolean elements that the call itself made; sets of whole numbers. · Gates: how many qubits a kind acts on; the valid gates (impl). · The walk of impl.IsValidGate. · An amplitude is added to a state of the call's own (impl.addAt). · Where a gate other than H moves a basis state (impl.moved); the powers of omega. · The walk of impl.ApplyGate: a gate other than H. · Gates: how many qubits a kind acts on, a gate's qubits, whole numbers in a list (spec). · The walk of spec.IsValidGate. · Where an amplitude goes (spec.l10Goes). · Where an amplitude goes (spec.l10Goes): all kinds. · The laws' helpers: numbers written over a state of the call's own, and read back. · The laws' helper that copies a gate. -/
import Derived.Test.YteckhaafdojoeaaGd
import Derived.Maps.OwnOps
import Derived.Maps.Views
import Derived.Test.YteckhaafdojoeaaGf
import Derived.BigQuiet
import Derived.Test.YteckhaafdojoeaaGe
/-! W4: A look-up in a map with boolean elements that the call itself made; sets of whole numbers. -/
namespace Go.Proofs.Yteckhaafdojoeaa
open Go.Maps

theorem plainElem_bool_inv {H : Type} {P : Program} {e : TypeId} (he : P.underlying e = some .bool) {v : Value} {z : DataW H × List MemPlace} (h : plainElem P e v = some z) : ∃ x, v = .bool x ∧ z = (.lit (.bool x), []) := by
  unfold plainElem at h
  rw [he] at h
  cases v <;> simp at h
  subst h
  exact ⟨_, rfl, rfl⟩

theorem ownsMap_lookup_bool {H : Type} {P : Program} {k : TypeId} {w : World} {b n : Nat} {D : DataW H} {t e : TypeId} (h : w.ownsMap P k (plainElem P e) b n D) (K : Keyed P k) (ht : P.underlying t = some (.map k e)) (he : P.underlying e = some .bool)
    (hz : (zeroValue e).run P w = .ok (.bool false) w) {key : Value} {kl : Lit} (hkey : keyOf P k key = some kl) :
    ∃ c, (Instr.lookup t (.map (some b)) key false).run P w = .ok (.bool c) w ∧ D.atKey kl (.lit (.bool false)) = .lit (.bool c) := by
  obtain ⟨v, ps, hrun, hv⟩ := h.lookup K ht hz (plainElem_bool he false) hkey
  obtain ⟨c, rfl, hc⟩ := plainElem_bool_inv he hv
  simp only [Prod.mk.injEq] at hc
  exact ⟨c, hrun, hc.1⟩

theorem wpList_lookup_own_bool {H : Type} {P : Program} (w : World) {ops : Array Oper} {rest : List Oper} {o : Oper} {a : Act} {Q : Exit → Act → World → Prop}
    (hg : o.guard = none) (m x : Operand) (t : TypeId) (hop : o.op = Op.lookup t m x false)
    (k e : TypeId) (K : Keyed P k) (ht : P.underlying t = some (.map k e)) (he : P.underlying e = some .bool) (hz : (zeroValue e).run P w = .ok (.bool false) w) (b n : Nat) (D : DataW H)
    (hm : a.eval m = .map (some b)) (hown : w.ownsMap P k (plainElem P e) b n D) (key : Value) (kl : Lit) (hx : a.eval x = key) (hkey : keyOf P k key = some kl)
    (c : Bool) (hc : D.atKey kl (.lit (.bool false)) = .lit (.bool c)) (hK : wpList P ops Q rest (a.put o.dst (.bool c)) w) :
    wpList P ops Q (o :: rest) a w := by
  refine wpList_plain hg fun K' hK' => ?_
  obtain ⟨c', hrun, hat⟩ := ownsMap_lookup_bool hown K ht he hz hkey
  rw [hc] at hat
  injection hat with hat
  injection hat with hat
  subst hat
  unfold Oper.wp
  simp [execOp, hop, hm, hx, hrun, Result.andThen]
  exact hK' _ _ hK

/-- A set of whole numbers. -/
def setI (ks : List Int) : DataW Unit := ks.foldl (fun D k => D.put (.int .i64 k) (.lit (.bool true))) (.map [])
theorem setI_snoc (ks : List Int) (k : Int) : setI (ks ++ [k]) = (setI ks).put (.int .i64 k) (.lit (.bool true)) := by simp [setI]
theorem setF_at (k : Int) : ∀ (ks : List Int) (D : DataW Unit), IsMap D →
    (ks.foldl (fun D k => D.put (.int .i64 k) (.lit (.bool true))) D).atKey (.int .i64 k) (.lit (.bool false)) = if ks.contains k then .lit (.bool true) else D.atKey (.int .i64 k) (.lit (.bool false))
  | [], D, _ => by simp
  | j :: ks, D, h => by
    rw [List.foldl_cons, setF_at k ks _ (h.put _ _)]
    by_cases hc : ks.contains k = true
    · have : (j :: ks).contains k = true := by simp at hc ⊢; exact .inr hc
      rw [if_pos hc, if_pos this]
    · rw [if_neg hc]
      by_cases hj : k = j
      · subst hj
        rw [atKey_put_same h (by trivial), if_pos (by simp)]
      · rw [atKey_put_other (by simpa using hj), if_neg]
        simp at hc ⊢
        exact ⟨hj, hc⟩
theorem setI_at (ks : List Int) (k : Int) : (setI ks).atKey (.int .i64 k) (.lit (.bool false)) = .lit (.bool (ks.contains k)) := by
  rw [setI, setF_at k ks _ isMap_empty]
  by_cases hc : ks.contains k = true
  · rw [if_pos hc, hc]
  · rw [if_neg hc]
    have : ks.contains k = false := by simpa using hc
    rw [this]
    rfl
theorem look_setI {P : Program} {k : TypeId} {w : World} {b n : Nat} {ks : List Int} {t e : TypeId} (h : w.ownsMap P k (plainElem P e) b n (setI ks)) (K : Keyed P k) (hk : P.underlying k = some (.int .i64)) (ht : P.underlying t = some (.map k e)) (he : P.underlying e = some .bool)
    (hz : (zeroValue e).run P w = .ok (.bool false) w) {q : Int} (hq : (Lit.int .i64 q).wf = true) {c : Bool} (hc : ks.contains q = c) : (Instr.lookup t (.map (some b)) (.int .i64 q) false).run P w = .ok (.bool c) w := by
  obtain ⟨c', hrun, hat⟩ := ownsMap_lookup_bool h K ht he hz (keyOf_int_mk hk hq)
  rw [setI_at] at hat
  injection hat with hat
  injection hat with hat
  rw [hrun, ← hat, hc]

end Go.Proofs.Yteckhaafdojoeaa

/-! S21: Gates: how many qubits a kind acts on; the valid gates (impl). -/
namespace Go.Proofs.Yteckhaafdojoeaa
open Go.RowKit Go.Maps

abbrev Gv (g : GT) : Value := .agg #[.int .i64 g.k, .int .i64 g.a, .int .i64 g.b, .int .i64 g.c]

theorem iArity (k : Int) (w : World) :
    Calls Try.prog 162 #[.int .i64 k] w fun e w' => e = .returned (.int .i64 (ar k)) ∧ w = w' := by
  go_enter Try.func162, Try.ntmps162
  go_wp2_with (go_at_call 116; refine (iIn _ _ _ _).mono ?_; rintro e w1 ⟨rfl, rfl⟩)
  all_goals
    simp only [inR_iff, inR_false, beq_iff_eq, beq_eq_false_iff_ne, ne_eq] at *
    go_ret
    exact ⟨by have := ar_cases k; first | (rw [show ar k = 1 by omega]; rfl) | (rw [show ar k = 2 by omega]; rfl) | (rw [show ar k = 3 by omega]; rfl) | (rw [show ar k = 0 by omega]; rfl), rfl⟩

end Go.Proofs.Yteckhaafdojoeaa

/-! S22: The walk of impl.IsValidGate. -/
namespace Go.Proofs.Yteckhaafdojoeaa
open Go.RowKit Go.Maps

theorem take_get {l : List Int} {j : Nat} (h : j < l.length) : l.take j ++ [l.getD j 0] = l.take (j + 1) := by
  rw [List.take_add_one, List.getElem?_eq_getElem h, List.getD_eq_getElem?_getD, List.getElem?_eq_getElem h]
  rfl

set_option maxRecDepth 100000 in
set_option maxHeartbeats 4000000 in
theorem iIsValidGate (g : GT) (n : Int) (w : World) :
    Calls Try.prog 117 #[Gv g, .int .i64 n] w fun e w' => e = .returned (.bool (g.ok n)) ∧ Below w.heap.size w w' := by
  have hmm := @run_makeMap Try.prog
  by_cases h1 : inR 1 4 n = true
  · by_cases h2 : ar g.k = 0
    · have hfin : g.ok n = false := GT.ok0 h2
      go_enter Try.func117, Try.ntmps117
      go_wp2_with (first | (go_at_call 116; refine (iIn _ _ _ _).mono ?_; rintro e w1 ⟨rfl, rfl⟩) | (go_at_call 162; refine (iArity _ _).mono ?_; rintro e w1 ⟨rfl, rfl⟩))
      all_goals go_ret
      all_goals exact ⟨by rw [hfin]; rfl, by (repeat (first | with_reducible exact Below.refl _ _ | with_reducible assumption | with_reducible refine Below.setCell ?_ (by first | omega | (simp; done) | (simp; omega)) _ | with_reducible refine Below.alloc ?_ (by first | omega | (simp; done) | (simp; omega)) _ | with_reducible refine Below.drew ?_ | with_reducible refine belowDrewN ?_ _ | with_reducible refine Below.trans ?_ (Below.mono (by assumption) (by first | omega | (simp; done) | (simp; omega)))))⟩
    · have B1 := (inR_iff _ _ _).1 h1
      have ha : 1 ≤ ar g.k ∧ ar g.k ≤ 3 := by have := ar_cases g.k; omega
      obtain ⟨L, hL⟩ : ∃ L : Nat, ar g.k = L := ⟨(ar g.k).toNat, by omega⟩
      have hA : ∀ w, Calls Try.prog 162 #[.int .i64 g.k] w fun e w' => e = .returned (.int .i64 L) ∧ w = w' := fun w => by have := iArity g.k w; rwa [hL] at this
      have hL0 : ((L : Int) == 0) = false := by rw [beq_eq_false_iff_ne]; omega
      go_enter Try.func117, Try.ntmps117
      go_wp2_with (first | (go_at_call 116; refine (iIn _ _ _ _).mono ?_; rintro e w1 ⟨rfl, rfl⟩) | (go_at_call 162; refine (hA _).mono ?_; rintro e w1 ⟨rfl, rfl⟩))
      have hown0 : World.ownsMap (((w.alloc (.cells #[.int .i64 g.k, .int .i64 g.a, .int .i64 g.b, .int .i64 g.c] 59)).alloc (.cells #[.int .i64 g.a, .int .i64 g.b, .int .i64 g.c] 3)).alloc (.map #[] 0)) Try.prog 3 (plainElem (H := Unit) Try.prog 4) (w.heap.size + 1 + 1) 0 (setI (g.qs.take 0)) := by
        have h := World.ownsMap_made (H := Unit) ((w.alloc (.cells #[.int .i64 g.k, .int .i64 g.a, .int .i64 g.b, .int .i64 g.c] 59)).alloc (.cells #[.int .i64 g.a, .int .i64 g.b, .int .i64 g.c] 3)) Try.prog 3 (plainElem Try.prog 4)
        simp only [World.size_alloc] at h
        exact h
      go_loopw [28] (fun v wr => ∃ j : Nat, v = .int .i64 j ∧ j ≤ 3 ∧ Hid (∀ i, i < j → g.chk (n - 1) i = true) ∧ (∃ c, c = j ∧ wr.ownsMap Try.prog 3 (plainElem (H := Unit) Try.prog 4) (w.heap.size + 1 + 1) c (setI (g.qs.take c)) ∨ L < j) ∧
        Blk wr w.heap.size [.int .i64 g.k, .int .i64 g.a, .int .i64 g.b, .int .i64 g.c] 59 ∧ Blk wr (w.heap.size + 1) [.int .i64 g.a, .int .i64 g.b, .int .i64 g.c] 3 ∧ w.heap.size + 1 + 1 < wr.heap.size ∧ Below w.heap.size w wr) (fun v _ => 3 - (intOf v).toNat)
      case atStart => exact ⟨0, rfl, by omega, fun _ h => absurd h (Nat.not_lt_zero _), ⟨0, .inl ⟨rfl, hown0⟩⟩, by (repeat (first | with_reducible assumption | with_reducible exact Blk.new' _ _ (by first | omega | (simp; done) | (simp; omega)) | with_reducible apply Blk.set5 | with_reducible apply Blk.set4 | with_reducible refine Blk.other ?_ (by first | omega | (simp; done) | (simp; omega)) _ | with_reducible refine Blk.drew ?_ | with_reducible refine Blk.alloc ?_ _ | with_reducible refine Blk.below ?_ (by assumption) (by first | omega | (simp; done) | (simp; omega)))), by (repeat (first | with_reducible assumption | with_reducible exact Blk.new' _ _ (by first | omega | (simp; done) | (simp; omega)) | with_reducible apply Blk.set5 | with_reducible apply Blk.set4 | with_reducible refine Blk.other ?_ (by first | omega | (simp; done) | (simp; omega)) _ | with_reducible refine Blk.drew ?_ | with_reducible refine Blk.alloc ?_ _ | with_reducible refine Blk.below ?_ (by assumption) (by first | omega | (simp; done) | (simp; omega)))), by simp, by (repeat (first | with_reducible exact Below.refl _ _ | with_reducible assumption | with_reducible refine Below.setCell ?_ (by first | omega | (simp; done) | (simp; omega)) _ | with_reducible refine Below.alloc ?_ (by first | omega | (simp; done) | (simp; omega)) _ | with_reducible refine Below.drew ?_ | with_reducible refine belowDrewN ?_ _ | with_reducible refine Below.trans ?_ (Below.mono (by assumption) (by first | omega | (simp; done) | (simp; omega)))))⟩
      case round =>
        obtain ⟨j, rfl, j0, hinv, hmap, hB, hB1, hsz, hb0⟩ := hrel
        obtain ⟨cB, fB, sB⟩ := hB.facts
        obtain ⟨cB1, fB1, sB1⟩ := hB1.facts
        have hs0 := hb0.size
        by_cases hj : j < 3
        · obtain ⟨q, hq⟩ : ∃ q, q = g.qs.getD j 0 := ⟨_, rfl⟩
          have hcell : wr.cell? ⟨w.heap.size + 1, j, none⟩ = some (.int .i64 q) := by
            rw [cB1, hq]
            have : j = 0 ∨ j = 1 ∨ j = 2 := by omega
            rcases this with rfl | rfl | rfl <;> rfl
          clear cB1
          by_cases hL1 : L ≤ j
          · have hge := chk_ge (m := n - 1) (show ar g.k ≤ j by omega)
            rw [← hq] at hge
            by_cases hq0 : q = 0
            · have hst := Lib.hid (chk_step hinv.out (by rw [hge, decide_eq_true hq0]))
              clear hge hq hinv hmap
              go_wp2_with (first | (go_at_call 116; refine (iIn _ _ _ _).mono ?_; rintro e w1 ⟨rfl, rfl⟩) | (go_at_call 162; refine (hA _).mono ?_; rintro e w1 ⟨rfl, rfl⟩) | (at_mapUpdate; refine wpList_mapUpdate_own _ rfl _ _ _ 160 rfl 3 4 (int_keyed Try.underlying3) Try.underlying160 (plainElem (H := Unit) Try.prog 4) (w.heap.size + 1 + 1) _ (setI _) rfl hown (by unfold maxLen; omega) (.int .i64 q) (.bool true) (.int .i64 q) rfl rfl (keyOf_int_mk Try.underlying3 (WalkArith.wf_i64 (by omega))) _ [] (plainElem_bool Try.underlying4 true) ?_; intro w1 hown1 hgrow1))
              go_roundw
              case rel => exact ⟨j + 1, by go_num, by omega, hst.out, ⟨0, .inr (by omega)⟩, hB, hB1, hsz, hb0⟩
              case measure => simp [intOf]; omega
            · have hfin := Lib.hid (GT.ok_no (g := g) (n := n) hj (by rw [hge]; simpa using hq0))
              clear hge hq hinv hmap
              go_wp2_with (first | (go_at_call 116; refine (iIn _ _ _ _).mono ?_; rintro e w1 ⟨rfl, rfl⟩) | (go_at_call 162; refine (hA _).mono ?_; rintro e w1 ⟨rfl, rfl⟩) | (at_mapUpdate; refine wpList_mapUpdate_own _ rfl _ _ _ 160 rfl 3 4 (int_keyed Try.underlying3) Try.underlying160 (plainElem (H := Unit) Try.prog 4) (w.heap.size + 1 + 1) _ (setI _) rfl hown (by unfold maxLen; omega) (.int .i64 q) (.bool true) (.int .i64 q) rfl rfl (keyOf_int_mk Try.underlying3 (WalkArith.wf_i64 (by omega))) _ [] (plainElem_bool Try.underlying4 true) ?_; intro w1 hown1 hgrow1))
              go_ret
              exact ⟨by rw [hfin.out]; rfl, by (repeat (first | with_reducible exact Below.refl _ _ | with_reducible assumption | with_reducible refine Below.setCell ?_ (by first | omega | (simp; done) | (simp; omega)) _ | with_reducible refine Below.alloc ?_ (by first | omega | (simp; done) | (simp; omega)) _ | with_reducible refine Below.drew ?_ | with_reducible refine belowDrewN ?_ _ | with_reducible refine Below.trans ?_ (Below.mono (by assumption) (by first | omega | (simp; done) | (simp; omega)))))⟩
          · have hlt := chk_lt (m := n - 1) (show ¬ ar g.k ≤ j by omega)
            rw [← hq] at hlt
            obtain ⟨c, ⟨rfl, hown⟩ | hc⟩ := hmap
            · by_cases hin : inR 0 (n - 1) q = true
              · have hqb := (inR_iff _ _ _).1 hin
                by_cases hcon : (g.qs.take c).contains q = true
                · have hfin := Lib.hid (GT.ok_no (g := g) (n := n) hj (by rw [hlt, hcon]; simp))
                  have hlook := look_setI hown (int_keyed Try.underlying3) Try.underlying3 Try.underlying160 Try.underlying4 (by kernel_rfl) (WalkArith.wf_i64 (by omega)) hcon
                  clear hlt hq hinv
                  go_wp2_with (first | (go_at_call 116; refine (iIn _ _ _ _).mono ?_; rintro e w1 ⟨rfl, rfl⟩) | (go_at_call 162; refine (hA _).mono ?_; rintro e w1 ⟨rfl, rfl⟩) | (at_mapUpdate; refine wpList_mapUpdate_own _ rfl _ _ _ 160 rfl 3 4 (int_keyed Try.underlying3) Try.underlying160 (plainElem (H := Unit) Try.prog 4) (w.heap.size + 1 + 1) _ (setI _) rfl hown (by unfold maxLen; omega) (.int .i64 q) (.bool true) (.int .i64 q) rfl rfl (keyOf_int_mk Try.underlying3 (WalkArith.wf_i64 (by omega))) _ [] (plainElem_bool Try.underlying4 true) ?_; intro w1 hown1 hgrow1))
                  go_ret
                  exact ⟨by rw [hfin.out]; rfl, by (repeat (first | with_reducible exact Below.refl _ _ | with_reducible assumption | with_reducible refine Below.setCell ?_ (by first | omega | (simp; done) | (simp; omega)) _ | with_reducible refine Below.alloc ?_ (by first | omega | (simp; done) | (simp; omega)) _ | with_reducible refine Below.drew ?_ | with_reducible refine belowDrewN ?_ _ | with_reducible refine Below.trans ?_ (Below.mono (by assumption) (by first | omega | (simp; done) | (simp; omega)))))⟩
                · have hcon' : (g.qs.take c).contains q = false := by simpa using hcon
                  have hst := Lib.hid (chk_step hinv.out (by rw [hlt, hin, hcon']; rfl))
                  have htk := take_get (l := g.qs) hj
                  rw [← hq] at htk
                  have hlook := look_setI hown (int_keyed Try.underlying3) Try.underlying3 Try.underlying160 Try.underlying4 (by kernel_rfl) (WalkArith.wf_i64 (by omega)) hcon'
                  clear hlt hq hinv hcon
                  go_wp2_with (first | (go_at_call 116; refine (iIn _ _ _ _).mono ?_; rintro e w1 ⟨rfl, rfl⟩) | (go_at_call 162; refine (hA _).mono ?_; rintro e w1 ⟨rfl, rfl⟩) | (at_mapUpdate; refine wpList_mapUpdate_own _ rfl _ _ _ 160 rfl 3 4 (int_keyed Try.underlying3) Try.underlying160 (plainElem (H := Unit) Try.prog 4) (w.heap.size + 1 + 1) _ (setI _) rfl hown (by unfold maxLen; omega) (.int .i64 q) (.bool true) (.int .i64 q) rfl rfl (keyOf_int_mk Try.underlying3 (WalkArith.wf_i64 (by omega))) _ [] (plainElem_bool Try.underlying4 true) ?_; intro w1 hown1 hgrow1))
                  have hown2 : w1.ownsMap Try.prog 3 (plainElem (H := Unit) Try.prog 4) (w.heap.size + 1 + 1) (c + 1) (setI (g.qs.take (c + 1))) := by rw [← htk, setI_snoc]; exact hown1
                  have hsz1 := hgrow1.size
                  go_roundw
                  case rel => exact ⟨c + 1, by go_num, by omega, hst.out, ⟨c + 1, .inl ⟨rfl, hown2⟩⟩, (hgrow1.block w.heap.size (by omega) (by first | (simp; done) | (simp; omega))).trans hB, (hgrow1.block (w.heap.size + 1) (by omega) (by first | (simp; done) | (simp; omega))).trans hB1, by omega, hb0.grown hgrow1 hb0.size (fun x hx => by cases hx; omega)⟩
                  case measure => simp [intOf]; omega
              · have hin' : inR 0 (n - 1) q = false := by simpa using hin
                have hfin := Lib.hid (GT.ok_no (g := g) (n := n) hj (by rw [hlt, hin']; simp))
                clear hlt hq hinv
                go_wp2_with (first | (go_at_call 116; refine (iIn _ _ _ _).mono ?_; rintro e w1 ⟨rfl, rfl⟩) | (go_at_call 162; refine (hA _).mono ?_; rintro e w1 ⟨rfl, rfl⟩) | (at_mapUpdate; refine wpList_mapUpdate_own _ rfl _ _ _ 160 rfl 3 4 (int_keyed Try.underlying3) Try.underlying160 (plainElem (H := Unit) Try.prog 4) (w.heap.size + 1 + 1) _ (setI _) rfl hown (by unfold maxLen; omega) (.int .i64 q) (.bool true) (.int .i64 q) rfl rfl (keyOf_int_mk Try.underlying3 (WalkArith.wf_i64 (by omega))) _ [] (plainElem_bool Try.underlying4 true) ?_; intro w1 hown1 hgrow1))
                go_ret
                exact ⟨by rw [hfin.out]; rfl, by (repeat (first | with_reducible exact Below.refl _ _ | with_reducible assumption | with_reducible refine Below.setCell ?_ (by first | omega | (simp; done) | (simp; omega)) _ | with_reducible refine Below.alloc ?_ (by first | omega | (simp; done) | (simp; omega)) _ | with_reducible refine Below.drew ?_ | with_reducible refine belowDrewN ?_ _ | with_reducible refine Below.trans ?_ (Below.mono (by assumption) (by first | omega | (simp; done) | (simp; omega)))))⟩
            · exact absurd hc (by omega)
        · have hfin := Lib.hid (GT.ok_yes h1 h2 (fun i hi => hinv.out i (by omega)))
          clear hinv hmap
          go_wp2_with (first | (go_at_call 116; refine (iIn _ _ _ _).mono ?_; rintro e w1 ⟨rfl, rfl⟩) | (go_at_call 162; refine (hA _).mono ?_; rintro e w1 ⟨rfl, rfl⟩) | (at_mapUpdate; refine wpList_mapUpdate_own _ rfl _ _ _ 160 rfl 3 4 (int_keyed Try.underlying3) Try.underlying160 (plainElem (H := Unit) Try.prog 4) (w.heap.size + 1 + 1) _ (setI _) rfl hown (by unfold maxLen; omega) (.int .i64 q) (.bool true) (.int .i64 q) rfl rfl (keyOf_int_mk Try.underlying3 (WalkArith.wf_i64 (by omega))) _ [] (plainElem_bool Try.underlying4 true) ?_; intro w1 hown1 hgrow1))
          go_ret
          exact ⟨by rw [hfin.out]; rfl, by (repeat (first | with_reducible exact Below.refl _ _ | with_reducible assumption | with_reducible refine Below.setCell ?_ (by first | omega | (simp; done) | (simp; omega)) _ | with_reducible refine Below.alloc ?_ (by first | omega | (simp; done) | (simp; omega)) _ | with_reducible refine Below.drew ?_ | with_reducible refine belowDrewN ?_ _ | with_reducible refine Below.trans ?_ (Below.mono (by assumption) (by first | omega | (simp; done) | (simp; omega)))))⟩
  · have hfin : g.ok n = false := by simp [GT.ok, h1]
    go_enter Try.func117, Try.ntmps117
    go_wp2_with (first | (go_at_call 116; refine (iIn _ _ _ _).mono ?_; rintro e w1 ⟨rfl, rfl⟩) | (go_at_call 162; refine (iArity _ _).mono ?_; rintro e w1 ⟨rfl, rfl⟩))
    all_goals go_ret
    all_goals exact ⟨by rw [hfin]; rfl, by (repeat (first | with_reducible exact Below.refl _ _ | with_reducible assumption | with_reducible refine Below.setCell ?_ (by first | omega | (simp; done) | (simp; omega)) _ | with_reducible refine Below.alloc ?_ (by first | omega | (simp; done) | (simp; omega)) _ | with_reducible refine Below.drew ?_ | with_reducible refine belowDrewN ?_ _ | with_reducible refine Below.trans ?_ (Below.mono (by assumption) (by first | omega | (simp; done) | (simp; omega)))))⟩

end Go.Proofs.Yteckhaafdojoeaa

/-! S23: An amplitude is added to a state of the call's own (impl.addAt). -/
namespace Go.Proofs.Yteckhaafdojoeaa
open Go.RowKit

theorem setD_grown {w w2 : World} {g i : Nat} {x : DO} (hb : Below w.heap.size w w2) : w.grownBy (setD w2 g i x) (some g) := by
  have h := setD_below (g := g) (i := i) (x := x) (hb.mono (Nat.zero_le _)) (Nat.zero_le _)
  refine ⟨h.os, h.tape, h.output, h.size, fun k hk hne => ?_⟩
  rw [setD_block _ _ _ _ _ (by simpa using hne), hb.block k hk]

theorem OwnS.alloc {w : World} {base : Nat} {v : Value} {l : List DO} (h : OwnS w base v l) (o : Obj) : OwnS (w.alloc o) base v l := World.ownsRow.alloc h o
theorem grown_trans {w w1 w2 : World} {r : Option Nat} (h : w.grownBy w1 r) (h2 : w1.grownBy w2 r) : w.grownBy w2 r := ⟨h2.os.trans h.os, h2.tape.trans h.tape, h2.output.trans h.output, Nat.le_trans h.size h2.size, fun k hk hn => (h2.block k (Nat.lt_of_lt_of_le hk h.size) hn).trans (h.block k hk hn)⟩
theorem grown_alloc {w w1 : World} {r : Option Nat} (h : w.grownBy w1 r) (o : Obj) : w.grownBy (w1.alloc o) r := grown_trans h (World.grownBy_alloc _ _ _)
theorem wp_gen {P : Program} {c : Code} {Q : Exit → Act → World → Prop} {a : Act} {w0 : World} (h : ∀ W, W = w0 → Code.wp P c Q a W) : Code.wp P c Q a w0 := h _ rfl

set_option maxHeartbeats 4000000 in
theorem iAddAt (base g cap i : Nat) (l : List DO) (x : DO) (hn : l.length ≤ 2000000) (hi : i < l.length) (w : World) (hS : OwnS w base (.slice (some ⟨g, 0, none⟩) l.length cap) l) :
    Calls Try.prog 128 #[.slice (some ⟨g, 0, none⟩) l.length cap, .int .i64 i, Dv x] w fun e w' => e = .returned (.bool (addD l[i] x).2) ∧ OwnS w' base (.slice (some ⟨g, 0, none⟩) l.length cap) (l.set i (addD l[i] x).1) ∧ w.grownBy w' (some g) := by
  obtain ⟨g', hgg, hgb, hgs⟩ := hS.block (by omega)
  cases hgg
  obtain ⟨y, hy⟩ : ∃ y, y = l[i] := ⟨_, rfl⟩
  rw [← hy]
  go_enter Try.func128, Try.ntmps128
  go_wp2
  refine wp_gen fun W hW => ?_
  have hB : Blk W w.heap.size (dcells x) 114 := by rw [hW]; exact Blk.new' _ _ rfl
  have hb0 : Below w.heap.size w W := by rw [hW]; (repeat (first | with_reducible exact Below.refl _ _ | with_reducible assumption | with_reducible refine Below.setCell ?_ (by first | omega | (simp; done) | (simp; omega)) _ | with_reducible refine Below.alloc ?_ (by first | omega | (simp; done) | (simp; omega)) _ | with_reducible refine Below.drew ?_ | with_reducible refine belowDrewN ?_ _ | with_reducible refine Below.trans ?_ (Below.mono (by assumption) (by first | omega | (simp; done) | (simp; omega)))))
  have hs0 : w.heap.size + 1 ≤ W.heap.size := by rw [hW]; simp
  have hgW : g < W.heap.size := by omega
  clear hW
  obtain ⟨cB, fB, sB⟩ := hB.facts
  simp only [dcells] at cB
  obtain ⟨hD, q7, q8⟩ := (hS.below hb0 (Nat.le_refl _)).at hi
  rw [← hy] at hD
  have q8' := Lib.hid (fun w2 hb => q8 w2 (addD y x).1 hb)
  obtain ⟨d0, d1, d2, d3, d4⟩ := hD
  clear q8 hS hy
  go_region_held3 (fun w' => Below W.heap.size W w' ∧ (∀ b o, b < W.heap.size → w'.cell? ⟨b, o, none⟩ = W.cell? ⟨b, o, none⟩) ∧ (∀ b o, b < W.heap.size → w'.frozen? ⟨b, o, none⟩ = W.frozen? ⟨b, o, none⟩) ∧ W.heap.size ≤ w'.heap.size) ((exact bpack (by (repeat (first | with_reducible exact Below.refl _ _ | with_reducible assumption | with_reducible refine Below.setCell ?_ (by first | omega | (simp; done) | (simp; omega)) _ | with_reducible refine Below.alloc ?_ (by first | omega | (simp; done) | (simp; omega)) _ | with_reducible refine Below.drew ?_ | with_reducible refine belowDrewN ?_ _ | with_reducible refine Below.trans ?_ (Below.mono (by assumption) (by first | omega | (simp; done) | (simp; omega)))))))) (first | (go_at_call 176; refine (iAddD' y x _).mono ?_; rintro e wa ⟨rfl, hb⟩; obtain ⟨hc, hf, hz⟩ := bcell hb; (try simp only [World.size_drew, World.cell?_drew, World.frozen?_drew] at hc hf hz); (try simp at hz); (try have kk := fun o => hc (w.heap.size) o (by first | omega | (simp; done) | (simp; omega))); (try have kf := fun o => hf (w.heap.size) o (by first | omega | (simp; done) | (simp; omega))); (try have zz : w.heap.size < wa.heap.size := by omega); (try have kk := fun o => hc (g) o (by first | omega | (simp; done) | (simp; omega))); (try have kf := fun o => hf (g) o (by first | omega | (simp; done) | (simp; omega))); (try have zz : g < wa.heap.size := by omega); (try have kk := fun o => hc (W.heap.size) o (by first | omega | (simp; done) | (simp; omega))); (try have kf := fun o => hf (W.heap.size) o (by first | omega | (simp; done) | (simp; omega))); (try have zz : W.heap.size < wa.heap.size := by omega)))
  all_goals go_wp2
  all_goals go_ret
  all_goals refine ⟨rfl, ?_, ?_⟩
  all_goals try with_reducible refine OwnS.alloc ?_ _
  all_goals try with_reducible refine grown_alloc ?_ _
  all_goals first
    | (with_reducible refine q8'.out _ ?_)
    | refine setD_grown (g := g) (i := i) (x := (addD y x).1) ?_
    | refine q8'.out _ ?_
  all_goals (repeat (first | with_reducible exact Below.refl _ _ | with_reducible assumption | with_reducible refine Below.setCell ?_ (by first | omega | (simp; done) | (simp; omega)) _ | with_reducible refine Below.alloc ?_ (by first | omega | (simp; done) | (simp; omega)) _ | with_reducible refine Below.drew ?_ | with_reducible refine belowDrewN ?_ _ | with_reducible refine Below.trans ?_ (Below.mono (by assumption) (by first | omega | (simp; done) | (simp; omega)))))

end Go.Proofs.Yteckhaafdojoeaa

/-! S24: Where a gate other than H moves a basis state (impl.moved); the powers of omega. -/
namespace Go.Proofs.Yteckhaafdojoeaa
open Go.RowKit BigFrame

theorem iPhase (p : Nat) (hp : p < 8) (w : World) : Calls Try.prog 127 #[.int .i64 p] w fun e w' => e = .returned (Dv (ph p)) ∧ Below w.heap.size w w' := by
  have : p = 0 ∨ p = 1 ∨ p = 2 ∨ p = 3 ∨ p = 4 ∨ p = 5 ∨ p = 6 ∨ p = 7 := by omega
  rcases this with rfl | rfl | rfl | rfl | rfl | rfl | rfl | rfl
  · exact iPhase0 w
  · exact iPhase1 w
  · exact iPhase2 w
  · exact iPhase3 w
  · exact iPhase4 w
  · exact iPhase5 w
  · exact iPhase6 w
  · exact iPhase7 w
theorem sPhase (p : Nat) (hp : p < 8) (w : World) : Calls Try.prog 136 #[.int .i64 p] w fun e w' => e = .returned (Dv (ph p)) ∧ Below w.heap.size w w' := by
  have : p = 0 ∨ p = 1 ∨ p = 2 ∨ p = 3 ∨ p = 4 ∨ p = 5 ∨ p = 6 ∨ p = 7 := by omega
  rcases this with rfl | rfl | rfl | rfl | rfl | rfl | rfl | rfl
  · exact sPhase0 w
  · exact sPhase1 w
  · exact sPhase2 w
  · exact sPhase3 w
  · exact sPhase4 w
  · exact sPhase5 w
  · exact sPhase6 w
  · exact sPhase7 w

set_option maxHeartbeats 4000000 in
theorem iMoved (k : Int) (A B C i : Nat) (hk : 1 ≤ k ∧ k ≤ 12) (hk4 : ¬ k = 4) (hA : A < 4) (hB : B < 4) (hC : C < 4) (hi : i < 16) (w : World) :
    Calls Try.prog 125 #[Gv ⟨k, A, B, C⟩, .int .i64 i] w fun e w' => e = .returned (.tuple #[.int .i64 (mv k A B C i).1, .int .i64 (mv k A B C i).2]) ∧ Below w.heap.size w w' := by
  have eA := bits_and1 i hi A hA
  have eB := bits_and1 i hi B hB
  have eC := bits_and1 i hi C hC
  have hk' : k = 1 ∨ k = 2 ∨ k = 3 ∨ k = 5 ∨ k = 6 ∨ k = 7 ∨ k = 8 ∨ k = 9 ∨ k = 10 ∨ k = 11 ∨ k = 12 := by omega
  have xA := xor_shl i hi A hA
  have xB := xor_shl1 i hi B hB (bit A i) (bit_lt _ _)
  have xC := fun b hb => xor_shl1 i hi C hC b hb
  have b1 := bit_lt A i
  have b2 := bit_lt B i
  have b3 : bit A i * bit B i < 2 := Nat.lt_of_le_of_lt (bit_mul_le _ _ _) b2
  rcases hk' with rfl | rfl | rfl | rfl | rfl | rfl | rfl | rfl | rfl | rfl | rfl
  all_goals try (
    go_enter Try.func125, Try.ntmps125
    go_wp2
    all_goals go_ret2
    all_goals refine ⟨?_, by (repeat (first | with_reducible exact Below.refl _ _ | with_reducible assumption | with_reducible refine Below.setCell ?_ (by first | omega | (simp; done) | (simp; omega)) _ | with_reducible refine Below.alloc ?_ (by first | omega | (simp; done) | (simp; omega)) _ | with_reducible refine Below.drew ?_ | with_reducible refine belowDrewN ?_ _ | with_reducible refine Below.trans ?_ (Below.mono (by assumption) (by first | omega | (simp; done) | (simp; omega)))))⟩
    all_goals simp [mv, *]
    done)
  all_goals
    have hy := xor_lt16 i hi (2 ^ A) (pow_lt16 hA)
    have xAB := xor_shl (i ^^^ 2 ^ A) hy B hB
    rcases (show bit A i = 0 ∨ bit A i = 1 by omega) with ha | ha <;> rcases (show bit B i = 0 ∨ bit B i = 1 by omega) with hb | hb
    all_goals
      rw [ha] at eA xB
      rw [hb] at eB
      have xC0 := xC 0 (by decide)
      have x0 : bits .xor .i64 (i : Int) 0 = i := by have := bits_xor i hi 0 (by decide); rw [Nat.xor_zero] at this; exact this
      have xC1 := xC 1 (by decide)
      go_enter Try.func125, Try.ntmps125
      go_wp2
      all_goals try (exfalso; omega)
      all_goals first | go_ret2 | (go_quiet (fail); go_wp2; go_ret2)
      all_goals try refine ⟨?_, by (repeat (first | with_reducible exact Below.refl _ _ | with_reducible assumption | with_reducible refine Below.setCell ?_ (by first | omega | (simp; done) | (simp; omega)) _ | with_reducible refine Below.alloc ?_ (by first | omega | (simp; done) | (simp; omega)) _ | with_reducible refine Below.drew ?_ | with_reducible refine belowDrewN ?_ _ | with_reducible refine Below.trans ?_ (Below.mono (by assumption) (by first | omega | (simp; done) | (simp; omega)))))⟩
      all_goals try simp_all [mv]
      done

end Go.Proofs.Yteckhaafdojoeaa

/-! S25: The walk of impl.ApplyGate: a gate other than H. -/
namespace Go.Proofs.Yteckhaafdojoeaa
open Go.RowKit BigFrame

theorem Blk.grown {w w' : World} {b g : Nat} {xs : List Value} {t : TypeId} (h : Blk w b xs t) (hg : w.grownBy w' (some g)) (hb : b ≠ g) : Blk w' b xs t := by
  have hlt := h.lt
  unfold Blk at *
  rw [hg.block b hlt (by simpa using hb), h]
theorem iAddAt' (base g cap i : Nat) (l : List DO) (x : DO) (n : Nat) (hl : l.length = n) (hn : n ≤ 2000000) (hi : i < n) (w : World) (hS : OwnS w base (.slice (some ⟨g, 0, none⟩) n cap) l) :
    Calls Try.prog 128 #[.slice (some ⟨g, 0, none⟩) n cap, .int .i64 i, Dv x] w fun e w' => e = .returned (.bool (addD (l.getD i ⟨⟨0, 0, 0, 0⟩, 0⟩) x).2) ∧ OwnS w' base (.slice (some ⟨g, 0, none⟩) n cap) (l.set i (addD (l.getD i ⟨⟨0, 0, 0, 0⟩, 0⟩) x).1) ∧ w.grownBy w' (some g) := by
  subst hl
  have : l.getD i ⟨⟨0, 0, 0, 0⟩, 0⟩ = l[i] := by rw [List.getD_eq_getElem?_getD, List.getElem?_eq_getElem hi]; rfl
  rw [this]
  exact iAddAt base g cap i l x hn hi w hS
theorem iMoved' (g : GT) (n i : Nat) (hg : g.ok n = true) (hk4 : ¬ g.k = 4) (hi : i < 16) (w : World) :
    Calls Try.prog 125 #[Gv g, .int .i64 i] w fun e w' => e = .returned (.tuple #[.int .i64 (mv g.k g.a.toNat g.b.toNat g.c.toNat i).1, .int .i64 (mv g.k g.a.toNat g.b.toNat g.c.toNat i).2]) ∧ Below w.heap.size w w' := by
  obtain ⟨⟨n1, n4⟩, hk, A, B, C, ⟨ha, hb, hc⟩, hA, hB, hC⟩ := GT.nats hg
  obtain ⟨k, a, b, c⟩ := g
  dsimp only at *
  subst ha hb hc
  exact iMoved k A B C i hk hk4 (by omega) (by omega) (by omega) hi w
theorem gkeep {W w1 : World} {G : Nat} (hg : W.grownBy w1 (some G)) : (∀ b o, b < W.heap.size → b ≠ G → w1.cell? ⟨b, o, none⟩ = W.cell? ⟨b, o, none⟩) ∧ (∀ b o, b < W.heap.size → b ≠ G → w1.frozen? ⟨b, o, none⟩ = W.frozen? ⟨b, o, none⟩) ∧ W.heap.size ≤ w1.heap.size :=
  ⟨fun k o h1 h2 => by simp only [World.cell?, hg.block k h1 (by simpa using h2)], fun k o h1 h2 => by simp only [World.frozen?, hg.block k h1 (by simpa using h2)], hg.size⟩

set_option maxRecDepth 100000 in
set_option maxHeartbeats 8000000 in
theorem iApplyG (g : GT) (ao : Option Addr) (v : List DO) (cap : Nat) (hn : v.length ≤ 2000000) (hs : okS v = true) (hg : g.ok (qc v.length) = true) (hk4 : ¬ g.k = 4) (w : World) (h : StR w ao v) :
    Calls Try.prog 48 #[Gv g, .slice ao v.length cap] w fun e w' => ∃ x, e = .returned (.tuple #[x, .bool (applyG g v).2]) ∧ OwnS w' w.heap.size x (applyG g v).1 ∧ Below w.heap.size w w' := by
  obtain ⟨iD, hiD, hzD0, hzD1, hzD2⟩ := info_parts infoD
  have hq : qc v.length ≠ 0 := by intro h0; rw [okS, h0] at hs; cases hs
  obtain ⟨hpow, hq1, hq4⟩ := qc_pow hq
  have h16 : v.length ≤ 16 := by
    rw [hpow]
    exact Nat.pow_le_pow_right (by decide) hq4
  have hbytes : iD.bytes * v.length ≤ 281474976710656 := by rw [hzD2]; omega
  have hmax : v.length ≤ maxLen := by unfold maxLen; omega
  have hR := Lib.hid (applyG_yes hs hg)
  have hne4 : (g.k != 4) = true := by simpa using hk4
  have HG := Lib.hid hg
  have HQ := Lib.hid hq
  clear hpow hq1 hq4
  go_enter Try.func48, Try.ntmps48
  go_wp2
  refine wp_gen fun W hW => ?_
  have hB : Blk W w.heap.size [.int .i64 g.k, .int .i64 g.a, .int .i64 g.b, .int .i64 g.c] 59 := by rw [hW]; exact Blk.new' _ _ rfl
  have hb0 : Below w.heap.size w W := by rw [hW]; (repeat (first | with_reducible exact Below.refl _ _ | with_reducible assumption | with_reducible refine Below.setCell ?_ (by first | omega | (simp; done) | (simp; omega)) _ | with_reducible refine Below.alloc ?_ (by first | omega | (simp; done) | (simp; omega)) _ | with_reducible refine Below.drew ?_ | with_reducible refine belowDrewN ?_ _ | with_reducible refine Below.trans ?_ (Below.mono (by assumption) (by first | omega | (simp; done) | (simp; omega)))))
  have hs0 : w.heap.size + 1 ≤ W.heap.size := by rw [hW]; simp
  clear hW
  obtain ⟨cB, fB, sB⟩ := hB.facts
  have hv : ∀ w', Below W.heap.size W w' → StR w' ao v := fun w' hb => (h.below hb0).below hb
  go_region_held3 (fun w' => Below W.heap.size W w' ∧ (∀ b o, b < W.heap.size → w'.cell? ⟨b, o, none⟩ = W.cell? ⟨b, o, none⟩) ∧ (∀ b o, b < W.heap.size → w'.frozen? ⟨b, o, none⟩ = W.frozen? ⟨b, o, none⟩) ∧ W.heap.size ≤ w'.heap.size) ((exact bpack (by (repeat (first | with_reducible exact Below.refl _ _ | with_reducible assumption | with_reducible refine Below.setCell ?_ (by first | omega | (simp; done) | (simp; omega)) _ | with_reducible refine Below.alloc ?_ (by first | omega | (simp; done) | (simp; omega)) _ | with_reducible refine Below.drew ?_ | with_reducible refine belowDrewN ?_ _ | with_reducible refine Below.trans ?_ (Below.mono (by assumption) (by first | omega | (simp; done) | (simp; omega)))))))) (first | (go_at_call 124; refine (iIsValidState _ _ _ (by omega) _ (hv _ (by (repeat (first | with_reducible exact Below.refl _ _ | with_reducible assumption | with_reducible refine Below.setCell ?_ (by first | omega | (simp; done) | (simp; omega)) _ | with_reducible refine Below.alloc ?_ (by first | omega | (simp; done) | (simp; omega)) _ | with_reducible refine Below.drew ?_ | with_reducible refine belowDrewN ?_ _ | with_reducible refine Below.trans ?_ (Below.mono (by assumption) (by first | omega | (simp; done) | (simp; omega)))))))).mono ?_; rintro e w1 ⟨rfl, hb⟩; obtain ⟨hc, hf, hz⟩ := bcell hb; (try simp only [World.size_drew, World.cell?_drew, World.frozen?_drew] at hc hf hz); (try simp at hz); (try have kk := fun o => hc (w.heap.size) o (by first | omega | (simp; done) | (simp; omega))); (try have kf := fun o => hf (w.heap.size) o (by first | omega | (simp; done) | (simp; omega))); (try have zz : w.heap.size < w1.heap.size := by omega)) | (go_at_call 106; refine (iQubitCount _ _ _ (by omega) _).mono ?_; rintro e w8 ⟨rfl, rfl⟩) | (go_at_call 117; refine (iIsValidGate g _ _).mono ?_; rintro e w2 ⟨rfl, hb⟩; obtain ⟨hc, hf, hz⟩ := bcell hb; (try simp only [World.size_drew, World.cell?_drew, World.frozen?_drew] at hc hf hz); (try simp at hz); (try have kk := fun o => hc (w.heap.size) o (by first | omega | (simp; done) | (simp; omega))); (try have kf := fun o => hf (w.heap.size) o (by first | omega | (simp; done) | (simp; omega))); (try have zz : w.heap.size < w2.heap.size := by omega)))
  go_wp2_with (at_make; refine wpList_make_full _ rfl _ _ 56 rfl w.heap.size TD iD _ 5 Try.underlying56 hiD hzD0 hzD1 _ _ _ _ v.length rfl rfl rfl rfl hbytes hmax (by omega) ?_)
  intro w3 hown hgrow
  have hS := OwnS.made (N := v.length) hown
  obtain ⟨G, hGe⟩ : ∃ G, G = w2.heap.size := ⟨_, rfl⟩
  have hG0 : w.heap.size < G := by omega
  have hb3 : Below w.heap.size w w3 := by
    refine Below.grown (show Below w.heap.size w w2 by (repeat (first | with_reducible exact Below.refl _ _ | with_reducible assumption | with_reducible refine Below.setCell ?_ (by first | omega | (simp; done) | (simp; omega)) _ | with_reducible refine Below.alloc ?_ (by first | omega | (simp; done) | (simp; omega)) _ | with_reducible refine Below.drew ?_ | with_reducible refine belowDrewN ?_ _ | with_reducible refine Below.trans ?_ (Below.mono (by assumption) (by first | omega | (simp; done) | (simp; omega)))))) hgrow (by omega) (fun k hk => by cases hk)
  have hB3 : Blk w3 w.heap.size [.int .i64 g.k, .int .i64 g.a, .int .i64 g.b, .int .i64 g.c] 59 := (hgrow.block _ (by omega) (by simp)).trans (show Blk w2 w.heap.size [.int .i64 g.k, .int .i64 g.a, .int .i64 g.b, .int .i64 g.c] 59 by (repeat (first | with_reducible assumption | with_reducible exact Blk.new' _ _ (by first | omega | (simp; done) | (simp; omega)) | with_reducible apply Blk.set5 | with_reducible apply Blk.set4 | with_reducible refine Blk.other ?_ (by first | omega | (simp; done) | (simp; omega)) _ | with_reducible refine Blk.drew ?_ | with_reducible refine Blk.alloc ?_ _ | with_reducible refine Blk.below ?_ (by assumption) (by first | omega | (simp; done) | (simp; omega)))))
  have hG3 : G < w3.heap.size := hGe ▸ (World.ownsRow.lt hS w2.heap.size rfl).2
  rw [← hGe] at hS ⊢
  clear hown hgrow hGe
  go_wp2
  go_loopw [30] (fun x wr => ∃ (j : Nat) (out : List DO), x = .int .i64 j ∧ j ≤ v.length ∧ OwnS wr w.heap.size (.slice (some ⟨G, 0, none⟩) v.length v.length) out ∧ Hid (out.length = v.length) ∧ Hid (applyL g j (v.drop j) out = applyG g v) ∧
    Blk wr w.heap.size [.int .i64 g.k, .int .i64 g.a, .int .i64 g.b, .int .i64 g.c] 59 ∧ G < wr.heap.size ∧ Below w.heap.size w wr) (fun x _ => v.length - (intOf x).toNat)
  case atStart => exact ⟨0, _, rfl, Nat.zero_le _, hS, by simp [Hid], hR.out, hB3, hG3, hb3⟩
  case round =>
    obtain ⟨j, out, rfl, j0, hS, HL, hinv, hB, hGs, hb0⟩ := hrel
    obtain ⟨cB, fB, sB⟩ := hB.facts
    have hs0 := hb0.size
    by_cases hj : j < v.length
    · obtain ⟨b, o, rfl, hlt, hD⟩ := (h.below hb0) j hj
      obtain ⟨x, hx⟩ : ∃ x, x = v[j] := ⟨_, rfl⟩
      rw [← hx] at hD
      obtain ⟨d0, d1, d2, d3, d4⟩ := hD
      obtain ⟨t, p, hmv⟩ : ∃ t p, mv g.k g.a.toNat g.b.toNat g.c.toNat j = (t, p) := ⟨_, _, rfl⟩
      obtain ⟨ht, hp⟩ := mv_target HQ.out HG.out hj hmv
      have hM : ∀ w, Calls Try.prog 125 #[Gv g, .int .i64 j] w fun e w' => e = .returned (.tuple #[.int .i64 t, .int .i64 p]) ∧ Below w.heap.size w w' := fun w => by
        have := iMoved' g _ j HG.out hk4 (by omega) w
        rwa [hmv] at this
      have hyes := Lib.hid (fun hm ha => stepG_yes hj hk4 hx hmv hm ha hinv.out)
      have hno := Lib.hid (fun ha => stepG_no hj hk4 hx hmv ha hinv.out)
      clear hmv hx hinv h
      go_wp2_with (go_at_call 125; refine (hM _).mono ?_; rintro e wm ⟨rfl, hb⟩; obtain ⟨hc, hf, hz⟩ := bcell hb; (try simp only [World.size_drew, World.cell?_drew, World.frozen?_drew] at hc hf hz); (try simp at hz); (try have kk := fun o => hc (w.heap.size) o (by first | omega | (simp; done) | (simp; omega))); (try have kf := fun o => hf (w.heap.size) o (by first | omega | (simp; done) | (simp; omega))); (try have zz : w.heap.size < wm.heap.size := by omega); (try have kk := fun o => hc (wr.heap.size) o (by first | omega | (simp; done) | (simp; omega))); (try have kf := fun o => hf (wr.heap.size) o (by first | omega | (simp; done) | (simp; omega))); (try have zz : wr.heap.size < wm.heap.size := by omega))
      go_region_held3 (fun w' => Below wm.heap.size wm w' ∧ (∀ b o, b < wm.heap.size → w'.cell? ⟨b, o, none⟩ = wm.cell? ⟨b, o, none⟩) ∧ (∀ b o, b < wm.heap.size → w'.frozen? ⟨b, o, none⟩ = wm.frozen? ⟨b, o, none⟩) ∧ wm.heap.size ≤ w'.heap.size) ((exact bpack (by (repeat (first | with_reducible exact Below.refl _ _ | with_reducible assumption | with_reducible refine Below.setCell ?_ (by first | omega | (simp; done) | (simp; omega)) _ | with_reducible refine Below.alloc ?_ (by first | omega | (simp; done) | (simp; omega)) _ | with_reducible refine Below.drew ?_ | with_reducible refine belowDrewN ?_ _ | with_reducible refine Below.trans ?_ (Below.mono (by assumption) (by first | omega | (simp; done) | (simp; omega)))))))) (first | (go_at_call 127; refine (iPhase p hp _).mono ?_; rintro e wp ⟨rfl, hb⟩; obtain ⟨hc, hf, hz⟩ := bcell hb; (try simp only [World.size_drew, World.cell?_drew, World.frozen?_drew] at hc hf hz); (try simp at hz); (try have kk := fun o => hc (w.heap.size) o (by first | omega | (simp; done) | (simp; omega))); (try have kf := fun o => hf (w.heap.size) o (by first | omega | (simp; done) | (simp; omega))); (try have zz : w.heap.size < wp.heap.size := by omega); (try have kk := fun o => hc (wr.heap.size) o (by first | omega | (simp; done) | (simp; omega))); (try have kf := fun o => hf (wr.heap.size) o (by first | omega | (simp; done) | (simp; omega))); (try have zz : wr.heap.size < wp.heap.size := by omega); (try have kk := fun o => hc (wm.heap.size) o (by first | omega | (simp; done) | (simp; omega))); (try have kf := fun o => hf (wm.heap.size) o (by first | omega | (simp; done) | (simp; omega))); (try have zz : wm.heap.size < wp.heap.size := by omega)) | (go_at_call 126; refine (iMulD' x (ph p) _).mono ?_; rintro e wa ⟨rfl, hb⟩; obtain ⟨hc, hf, hz⟩ := bcell hb; (try simp only [World.size_drew, World.cell?_drew, World.frozen?_drew] at hc hf hz); (try simp at hz); (try have kk := fun o => hc (w.heap.size) o (by first | omega | (simp; done) | (simp; omega))); (try have kf := fun o => hf (w.heap.size) o (by first | omega | (simp; done) | (simp; omega))); (try have zz : w.heap.size < wa.heap.size := by omega); (try have kk := fun o => hc (wr.heap.size) o (by first | omega | (simp; done) | (simp; omega))); (try have kf := fun o => hf (wr.heap.size) o (by first | omega | (simp; done) | (simp; omega))); (try have zz : wr.heap.size < wa.heap.size := by omega); (try have kk := fun o => hc (wm.heap.size) o (by first | omega | (simp; done) | (simp; omega))); (try have kf := fun o => hf (wm.heap.size) o (by first | omega | (simp; done) | (simp; omega))); (try have zz : wm.heap.size < wa.heap.size := by omega)))
      all_goals rcases Bool.eq_false_or_eq_true (mulD x (ph p)).2 with hm | hm
      all_goals rw [hm]
      all_goals first
        | (have hfin := Lib.hid (hno.out (by rw [hm]; rfl))
           clear hyes hno
           go_wp2
           go_ret2
           exact ⟨.slice none 0 0, by rw [hfin.out]; rfl, by rw [hfin.out]; exact OwnS.nil _ _, by (repeat (first | with_reducible exact Below.refl _ _ | with_reducible assumption | with_reducible refine Below.setCell ?_ (by first | omega | (simp; done) | (simp; omega)) _ | with_reducible refine Below.alloc ?_ (by first | omega | (simp; done) | (simp; omega)) _ | with_reducible refine Below.drew ?_ | with_reducible refine belowDrewN ?_ _ | with_reducible refine Below.trans ?_ (Below.mono (by assumption) (by first | omega | (simp; done) | (simp; omega)))))⟩)
        | skip
      all_goals go_wp2_with fail
      all_goals refine (iAddAt' w.heap.size G v.length t out (mulD x (ph p)).1 v.length HL.out (by omega) ht _ (hS.below (B := wr.heap.size) ?_ (Nat.le_refl _))).mono ?_
      all_goals first | (with_reducible refine id (α := Below _ _ _) ?_; (repeat (first | with_reducible exact Below.refl _ _ | with_reducible assumption | with_reducible refine Below.setCell ?_ (by first | omega | (simp; done) | (simp; omega)) _ | with_reducible refine Below.alloc ?_ (by first | omega | (simp; done) | (simp; omega)) _ | with_reducible refine Below.drew ?_ | with_reducible refine belowDrewN ?_ _ | with_reducible refine Below.trans ?_ (Below.mono (by assumption) (by first | omega | (simp; done) | (simp; omega))))); done) | skip
      all_goals rintro e w9 ⟨rfl, hS9, hG9⟩
      all_goals have hb9 : Below w.heap.size w w9 := Below.grown (by (repeat (first | with_reducible exact Below.refl _ _ | with_reducible assumption | with_reducible refine Below.setCell ?_ (by first | omega | (simp; done) | (simp; omega)) _ | with_reducible refine Below.alloc ?_ (by first | omega | (simp; done) | (simp; omega)) _ | with_reducible refine Below.drew ?_ | with_reducible refine belowDrewN ?_ _ | with_reducible refine Below.trans ?_ (Below.mono (by assumption) (by first | omega | (simp; done) | (simp; omega)))))) hG9 (by first | omega | (simp; done) | (simp; omega)) (fun k hk => by cases hk; omega)
      all_goals have hB9 := Blk.grown (b := w.heap.size) (xs := [.int .i64 g.k, .int .i64 g.a, .int .i64 g.b, .int .i64 g.c]) (t := 59) (by (repeat (first | with_reducible assumption | with_reducible exact Blk.new' _ _ (by first | omega | (simp; done) | (simp; omega)) | with_reducible apply Blk.set5 | with_reducible apply Blk.set4 | with_reducible refine Blk.other ?_ (by first | omega | (simp; done) | (simp; omega)) _ | with_reducible refine Blk.drew ?_ | with_reducible refine Blk.alloc ?_ _ | with_reducible refine Blk.below ?_ (by assumption) (by first | omega | (simp; done) | (simp; omega))))) hG9 (by omega)
      all_goals have hz9 : G < w9.heap.size := Nat.lt_of_lt_of_le (by first | omega | (simp; done) | (simp; omega)) hG9.size
      all_goals clear hG9 hS
      all_goals rcases Bool.eq_false_or_eq_true (addD (out.getD t ⟨⟨0, 0, 0, 0⟩, 0⟩) (mulD x (ph p)).1).2 with ha | ha
      all_goals rw [ha]
      all_goals first
        | (have hfin := Lib.hid (hno.out (by rw [hm, ha]; rfl))
           clear hyes hno
           go_wp2
           go_ret2
           exact ⟨.slice none 0 0, by rw [hfin.out]; rfl, by rw [hfin.out]; exact OwnS.nil _ _, hb9⟩)
        | skip
      all_goals have hnext := Lib.hid (hyes.out hm ha)
      all_goals clear hyes hno
      all_goals go_wp2
      all_goals go_roundw
      all_goals first
        | exact ⟨j + 1, _, by go_num, by omega, hS9, by simp only [Hid, List.length_set]; exact HL.out, hnext.out, hB9, hz9, hb9⟩
        | (simp [intOf]; omega)
    · have hfin := Lib.hid (applyL_end hj hinv.out)
      clear hinv h
      have hS2 := hS
      rw [← HL.out] at hS2
      go_wp2
      go_ret2
      exact ⟨_, by rw [hfin.out]; rfl, by rw [hfin.out]; exact hS, hb0⟩

end Go.Proofs.Yteckhaafdojoeaa

/-! S26: Gates: how many qubits a kind acts on, a gate's qubits, whole numbers in a list (spec). -/
namespace Go.Proofs.Yteckhaafdojoeaa
open Go.RowKit

abbrev TN : Nat := 3

theorem sArity (k : Int) (w : World) :
    Calls Try.prog 188 #[.int .i64 k] w fun e w' => e = .returned (.int .i64 (ar k)) ∧ w = w' := by
  go_enter Try.func188, Try.ntmps188
  go_wp2_with (go_at_call 102; refine (sIn _ _ _ _).mono ?_; rintro e w1 ⟨rfl, rfl⟩)
  all_goals
    simp only [inR_iff, inR_false, beq_iff_eq, beq_eq_false_iff_ne, ne_eq] at *
    go_ret
    exact ⟨by have := ar_cases k; first | (rw [show ar k = 1 by omega]; rfl) | (rw [show ar k = 2 by omega]; rfl) | (rw [show ar k = 3 by omega]; rfl) | (rw [show ar k = 0 by omega]; rfl), rfl⟩

theorem not_contains_step {qs : List Int} {x : Int} {j : Nat} (h : ∀ i (hi : i < qs.length), i < j → qs[i] ≠ x) {hl : j < qs.length} (hx : ¬ qs[j] = x) : ∀ i (hi : i < qs.length), i < j + 1 → qs[i] ≠ x := fun i hi hij => by
  by_cases e : i = j
  · subst e; exact hx
  · exact h i hi (by omega)
theorem not_contains {qs : List Int} {x : Int} (h : ∀ i (hi : i < qs.length), qs[i] ≠ x) : qs.contains x = false := by
  cases hc : qs.contains x
  · rfl
  · obtain ⟨i, hi, he⟩ := List.getElem_of_mem (by simpa using hc : x ∈ qs)
    exact absurd he (h i hi)
theorem contains_at {qs : List Int} {x : Int} {j : Nat} (hj : j < qs.length) (hx : qs[j] = x) : qs.contains x = true := by
  subst hx
  simp

set_option maxHeartbeats 4000000 in
theorem sHasInt (ao : Option Addr) (b o c : Nat) (qs : List Int) (x : Int) (w : World) (hn : qs.length ≤ 2000000) (ha : 0 < qs.length → ao = some ⟨b, o, none⟩) (hc : ∀ i (h : i < qs.length), w.cell? ⟨b, o + i, none⟩ = some (.int .i64 qs[i])) :
    Calls Try.prog 103 #[.slice ao qs.length c, .int .i64 x] w fun e w' => e = .returned (.bool (qs.contains x)) ∧ w = w' := by
  go_enter Try.func103, Try.ntmps103
  go_wp2
  go_loopw [5] (fun v wr => ∃ j : Nat, v = .int .i64 j ∧ j ≤ qs.length ∧ Hid (∀ i (hi : i < qs.length), i < j → qs[i] ≠ x) ∧ w = wr) (fun v _ => qs.length - (intOf v).toNat)
  case atStart => exact ⟨0, rfl, Nat.zero_le _, fun _ _ h => absurd h (Nat.not_lt_zero _), rfl⟩
  case round =>
    obtain ⟨j, rfl, h0, hinv, rfl⟩ := hrel
    by_cases hj : j < qs.length
    · obtain rfl := ha (by omega)
      have hcell := hc j hj
      by_cases hx : qs[j] = x
      · have hfin := Lib.hid (contains_at hj hx)
        clear ha hc
        go_wp2
        go_ret
        exact ⟨by rw [hfin.out]; rfl, rfl⟩
      · have hst := Lib.hid (not_contains_step hinv.out hx)
        clear ha hc
        go_wp2
        go_roundw
        case rel => exact ⟨j + 1, by go_num, by omega, hst.out, by first | rfl | trivial⟩
        case measure => simp [intOf]; omega
    · have hfin := Lib.hid (not_contains (qs := qs) (x := x) (fun i hi => hinv.out i hi (by omega)))
      clear ha hc
      go_wp2
      go_ret
      exact ⟨by rw [hfin.out]; rfl, rfl⟩

theorem infoN : (Try.prog.info? TN).map (fun i => (i.zero, i.size, i.bytes)) = some (some (.int .i64 0), 1, 8) := by kernel_rfl

theorem ownsN_empty {w : World} {base g : Nat} (hg : g = w.heap.size) (hb : base ≤ w.heap.size) : (w.alloc (.cells #[] TN)).ownsRow base TN 1 (.slice (some ⟨g, 0, none⟩) 0 0) 0 [] := hg ▸ World.ownsRow_made (size := 1) w #[] 0 hb (by decide) rfl

set_option maxRecDepth 100000 in
set_option maxHeartbeats 4000000 in
theorem sGateQubits (g : GT) (L : Nat) (hL : ar g.k = L) (w : World) :
    Calls Try.prog 163 #[Gv g] w fun e w' => ∃ ao b c, e = .returned (.slice ao L c) ∧ (0 < L → ao = some ⟨b, 0, none⟩) ∧ L ≤ c ∧ (∀ i, i < L → w'.cell? ⟨b, i, none⟩ = some (.int .i64 (g.qs.getD i 0))) ∧ (0 < L → b < w'.heap.size) ∧ Below w.heap.size w w' := by
  obtain ⟨iN, hiN, hzN0, hzN1, hzN2⟩ := info_parts infoN
  have hA : ∀ w, Calls Try.prog 188 #[.int .i64 g.k] w fun e w' => e = .returned (.int .i64 L) ∧ w = w' := fun w => by have := sArity g.k w; rwa [hL] at this
  have h3 : L ≤ 3 := by have := ar_cases g.k; omega
  rcases Nat.eq_zero_or_pos L with rfl | hpos
  · go_enter Try.func163, Try.ntmps163
    go_wp2_with (go_at_call 188; refine (hA _).mono ?_; rintro e w1 ⟨rfl, rfl⟩)
    go_ret
    exact ⟨_, 0, _, rfl, fun h => absurd h (by omega), Nat.le_refl _, fun i h => absurd h (by omega), fun h => absurd h (by omega), by (repeat (first | with_reducible exact Below.refl _ _ | with_reducible assumption | with_reducible refine Below.setCell ?_ (by first | omega | (simp; done) | (simp; omega)) _ | with_reducible refine Below.alloc ?_ (by first | omega | (simp; done) | (simp; omega)) _ | with_reducible refine Below.drew ?_ | with_reducible refine belowDrewN ?_ _ | with_reducible refine Below.trans ?_ (Below.mono (by assumption) (by first | omega | (simp; done) | (simp; omega)))))⟩
  · go_enter Try.func163, Try.ntmps163
    have hL3 : L = 1 ∨ L = 2 ∨ L = 3 := by omega
    rcases hL3 with rfl | rfl | rfl
    · go_wp2_with (first | (go_at_call 188; refine (hA _).mono ?_; rintro e w1 ⟨rfl, rfl⟩) | (at_builtin; refine wpList_append_own _ rfl _ _ 24 rfl w.heap.size TN iN _ 1 8 Try.underlying24 hiN hzN0 hzN1 hzN2 rfl (by decide) _ 0 [] rfl ?c6 ⟨w.heap.size + 1, 0, none⟩ 1 3 [.int .i64 g.a] rfl rfl ?c1 ?c2 ?c3 ?c4 ?c5 ?_))
      case c6 =>
        exact ownsN_empty (by first | omega | (simp; done) | (simp; omega)) (by first | omega | (simp; done) | (simp; omega))
      case c1 =>
        intro j u hu
        have hB : Blk (((w.alloc (.cells #[.int .i64 g.k, .int .i64 g.a, .int .i64 g.b, .int .i64 g.c] 59)).alloc (.cells #[.int .i64 g.a, .int .i64 g.b, .int .i64 g.c] 3)).alloc (.cells #[] 3)) (w.heap.size + 1) [.int .i64 g.a, .int .i64 g.b, .int .i64 g.c] 3 := by (repeat (first | with_reducible assumption | with_reducible exact Blk.new' _ _ (by first | omega | (simp; done) | (simp; omega)) | with_reducible apply Blk.set5 | with_reducible apply Blk.set4 | with_reducible refine Blk.other ?_ (by first | omega | (simp; done) | (simp; omega)) _ | with_reducible refine Blk.drew ?_ | with_reducible refine Blk.alloc ?_ _ | with_reducible refine Blk.below ?_ (by assumption) (by first | omega | (simp; done) | (simp; omega))))
        rw [Addr.add_lit, Nat.zero_add, hB.cell j]
        have hj : j < 1 := (List.getElem?_eq_some_iff.1 hu).1
        have : j = 0 := by omega
        subst this <;> exact hu
      case c2 =>
        intro u hu
        simp only [List.mem_cons, List.not_mem_nil, or_false] at hu
        subst hu <;> rfl
      case c3 => decide
      case c4 => decide
      case c5 => simp; omega
      intro v' w' hown hgrow _
      rcases hown.2 with ⟨_, h0⟩ | ⟨gb, cap, cur, hv, hbg, hgg, hn, hcap, _⟩
      · omega
      · subst hv
        have hbb : Below w.heap.size w w' := Below.grown (by (repeat (first | with_reducible exact Below.refl _ _ | with_reducible assumption | with_reducible refine Below.setCell ?_ (by first | omega | (simp; done) | (simp; omega)) _ | with_reducible refine Below.alloc ?_ (by first | omega | (simp; done) | (simp; omega)) _ | with_reducible refine Below.drew ?_ | with_reducible refine belowDrewN ?_ _ | with_reducible refine Below.trans ?_ (Below.mono (by assumption) (by first | omega | (simp; done) | (simp; omega)))))) hgrow (by simp; omega) (fun k hk => by simp [Value.ownBlock] at hk; omega)
        have hcells : ∀ i, i < 1 → w'.cell? ⟨gb, i, none⟩ = some (.int .i64 (g.qs.getD i 0)) := fun i hi => by
          rw [World.ownsRow.cellAt hown i (by omega)]
          have : i = 0 := by omega
          subst this <;> rfl
        have hlt := (Array.getElem?_eq_some_iff.1 hgg).1
        clear hown hgrow hgg
        go_wp2
        go_ret
        exact ⟨_, gb, cap, rfl, fun _ => rfl, hn, hcells, fun _ => hlt, hbb⟩
    · go_wp2_with (first | (go_at_call 188; refine (hA _).mono ?_; rintro e w1 ⟨rfl, rfl⟩) | (at_builtin; refine wpList_append_own _ rfl _ _ 24 rfl w.heap.size TN iN _ 1 8 Try.underlying24 hiN hzN0 hzN1 hzN2 rfl (by decide) _ 0 [] rfl ?c6 ⟨w.heap.size + 1, 0, none⟩ 2 3 [.int .i64 g.a, .int .i64 g.b] rfl rfl ?c1 ?c2 ?c3 ?c4 ?c5 ?_))
      case c6 =>
        exact ownsN_empty (by first | omega | (simp; done) | (simp; omega)) (by first | omega | (simp; done) | (simp; omega))
      case c1 =>
        intro j u hu
        have hB : Blk (((w.alloc (.cells #[.int .i64 g.k, .int .i64 g.a, .int .i64 g.b, .int .i64 g.c] 59)).alloc (.cells #[.int .i64 g.a, .int .i64 g.b, .int .i64 g.c] 3)).alloc (.cells #[] 3)) (w.heap.size + 1) [.int .i64 g.a, .int .i64 g.b, .int .i64 g.c] 3 := by (repeat (first | with_reducible assumption | with_reducible exact Blk.new' _ _ (by first | omega | (simp; done) | (simp; omega)) | with_reducible apply Blk.set5 | with_reducible apply Blk.set4 | with_reducible refine Blk.other ?_ (by first | omega | (simp; done) | (simp; omega)) _ | with_reducible refine Blk.drew ?_ | with_reducible refine Blk.alloc ?_ _ | with_reducible refine Blk.below ?_ (by assumption) (by first | omega | (simp; done) | (simp; omega))))
        rw [Addr.add_lit, Nat.zero_add, hB.cell j]
        have hj : j < 2 := (List.getElem?_eq_some_iff.1 hu).1
        have : j = 0 ∨ j = 1 := by omega
        rcases this with rfl | rfl <;> exact hu
      case c2 =>
        intro u hu
        simp only [List.mem_cons, List.not_mem_nil, or_false] at hu
        rcases hu with rfl | rfl <;> rfl
      case c3 => decide
      case c4 => decide
      case c5 => simp; omega
      intro v' w' hown hgrow _
      rcases hown.2 with ⟨_, h0⟩ | ⟨gb, cap, cur, hv, hbg, hgg, hn, hcap, _⟩
      · omega
      · subst hv
        have hbb : Below w.heap.size w w' := Below.grown (by (repeat (first | with_reducible exact Below.refl _ _ | with_reducible assumption | with_reducible refine Below.setCell ?_ (by first | omega | (simp; done) | (simp; omega)) _ | with_reducible refine Below.alloc ?_ (by first | omega | (simp; done) | (simp; omega)) _ | with_reducible refine Below.drew ?_ | with_reducible refine belowDrewN ?_ _ | with_reducible refine Below.trans ?_ (Below.mono (by assumption) (by first | omega | (simp; done) | (simp; omega)))))) hgrow (by simp; omega) (fun k hk => by simp [Value.ownBlock] at hk; omega)
        have hcells : ∀ i, i < 2 → w'.cell? ⟨gb, i, none⟩ = some (.int .i64 (g.qs.getD i 0)) := fun i hi => by
          rw [World.ownsRow.cellAt hown i (by omega)]
          have : i = 0 ∨ i = 1 := by omega
          rcases this with rfl | rfl <;> rfl
        have hlt := (Array.getElem?_eq_some_iff.1 hgg).1
        clear hown hgrow hgg
        go_wp2
        go_ret
        exact ⟨_, gb, cap, rfl, fun _ => rfl, hn, hcells, fun _ => hlt, hbb⟩
    · go_wp2_with (first | (go_at_call 188; refine (hA _).mono ?_; rintro e w1 ⟨rfl, rfl⟩) | (at_builtin; refine wpList_append_own _ rfl _ _ 24 rfl w.heap.size TN iN _ 1 8 Try.underlying24 hiN hzN0 hzN1 hzN2 rfl (by decide) _ 0 [] rfl ?c6 ⟨w.heap.size + 1, 0, none⟩ 3 3 [.int .i64 g.a, .int .i64 g.b, .int .i64 g.c] rfl rfl ?c1 ?c2 ?c3 ?c4 ?c5 ?_))
      case c6 =>
        exact ownsN_empty (by first | omega | (simp; done) | (simp; omega)) (by first | omega | (simp; done) | (simp; omega))
      case c1 =>
        intro j u hu
        have hB : Blk (((w.alloc (.cells #[.int .i64 g.k, .int .i64 g.a, .int .i64 g.b, .int .i64 g.c] 59)).alloc (.cells #[.int .i64 g.a, .int .i64 g.b, .int .i64 g.c] 3)).alloc (.cells #[] 3)) (w.heap.size + 1) [.int .i64 g.a, .int .i64 g.b, .int .i64 g.c] 3 := by (repeat (first | with_reducible assumption | with_reducible exact Blk.new' _ _ (by first | omega | (simp; done) | (simp; omega)) | with_reducible apply Blk.set5 | with_reducible apply Blk.set4 | with_reducible refine Blk.other ?_ (by first | omega | (simp; done) | (simp; omega)) _ | with_reducible refine Blk.drew ?_ | with_reducible refine Blk.alloc ?_ _ | with_reducible refine Blk.below ?_ (by assumption) (by first | omega | (simp; done) | (simp; omega))))
        rw [Addr.add_lit, Nat.zero_add, hB.cell j]
        have hj : j < 3 := (List.getElem?_eq_some_iff.1 hu).1
        have : j = 0 ∨ j = 1 ∨ j = 2 := by omega
        rcases this with rfl | rfl | rfl <;> exact hu
      case c2 =>
        intro u hu
        simp only [List.mem_cons, List.not_mem_nil, or_false] at hu
        rcases hu with rfl | rfl | rfl <;> rfl
      case c3 => decide
      case c4 => decide
      case c5 => simp; omega
      intro v' w' hown hgrow _
      rcases hown.2 with ⟨_, h0⟩ | ⟨gb, cap, cur, hv, hbg, hgg, hn, hcap, _⟩
      · omega
      · subst hv
        have hbb : Below w.heap.size w w' := Below.grown (by (repeat (first | with_reducible exact Below.refl _ _ | with_reducible assumption | with_reducible refine Below.setCell ?_ (by first | omega | (simp; done) | (simp; omega)) _ | with_reducible refine Below.alloc ?_ (by first | omega | (simp; done) | (simp; omega)) _ | with_reducible refine Below.drew ?_ | with_reducible refine belowDrewN ?_ _ | with_reducible refine Below.trans ?_ (Below.mono (by assumption) (by first | omega | (simp; done) | (simp; omega)))))) hgrow (by simp; omega) (fun k hk => by simp [Value.ownBlock] at hk; omega)
        have hcells : ∀ i, i < 3 → w'.cell? ⟨gb, i, none⟩ = some (.int .i64 (g.qs.getD i 0)) := fun i hi => by
          rw [World.ownsRow.cellAt hown i (by omega)]
          have : i = 0 ∨ i = 1 ∨ i = 2 := by omega
          rcases this with rfl | rfl | rfl <;> rfl
        have hlt := (Array.getElem?_eq_some_iff.1 hgg).1
        clear hown hgrow hgg
        go_wp2
        go_ret
        exact ⟨_, gb, cap, rfl, fun _ => rfl, hn, hcells, fun _ => hlt, hbb⟩

end Go.Proofs.Yteckhaafdojoeaa

/-! S27: The walk of spec.IsValidGate. -/
namespace Go.Proofs.Yteckhaafdojoeaa
open Go.RowKit BigFrame

theorem GT.ok_no2 {g : GT} {n : Int} {j : Nat} (hj : j < 3) (h : ¬ g.chk (wrap64 (n - 1)) j = true) : g.ok n = false := by
  by_cases h1 : inR 1 4 n = true
  · have hb := (inR_iff _ _ _).1 h1
    have : wrap64 (n - 1) = n - 1 := by unfold wrap64; omega
    rw [this] at h
    exact GT.ok_no hj h
  · simp [GT.ok, h1]
theorem GT.ok_end {g : GT} {n : Int} {L : Nat} (hL : ar g.k = L) (h : ∀ j, j < 3 → g.chk (wrap64 (n - 1)) j = true) : g.ok n = (decide (0 < L) && inR 1 4 n) := by
  by_cases h1 : inR 1 4 n = true
  · have hb := (inR_iff _ _ _).1 h1
    have : wrap64 (n - 1) = n - 1 := by unfold wrap64; omega
    rw [this] at h
    by_cases h0 : ar g.k = 0
    · rw [GT.ok0 h0, decide_eq_false (by omega)]; rfl
    · rw [GT.ok_yes h1 h0 h, h1, decide_eq_true (by omega)]; rfl
  · have h1' : inR 1 4 n = false := by simpa using h1
    rw [h1', Bool.and_false]
    simp [GT.ok, h1']

theorem qs_get {l : List Int} {i : Nat} (h : i < l.length) : l.getD i 0 = l[i] := by rw [List.getD_eq_getElem?_getD, List.getElem?_eq_getElem h]; rfl

set_option maxRecDepth 100000 in
set_option maxHeartbeats 8000000 in
theorem sIsValidGate (g : GT) (n : Int) (w : World) :
    Calls Try.prog 118 #[Gv g, .int .i64 n] w fun e w' => e = .returned (.bool (g.ok n)) ∧ Below w.heap.size w w' := by
  have ha := ar_cases g.k
  obtain ⟨L, hL⟩ : ∃ L : Nat, ar g.k = L := ⟨(ar g.k).toNat, by omega⟩
  have h3 : L ≤ 3 := by omega
  go_enter Try.func118, Try.ntmps118
  go_wp2_with (go_at_call 163; refine (sGateQubits g L hL _).mono ?_; rintro e w1 ⟨qo, qb, qc, rfl, hq0, hqc, hqs, hqz, hb⟩; obtain ⟨hc, hf, hz⟩ := bcell hb; (try simp only [World.size_alloc] at hz); have kk := fun o => hc w.heap.size o (by simp); have kf := fun o => hf w.heap.size o (by simp))
  refine wp_gen fun W hW => ?_
  have hB : Blk W w1.heap.size [.int .i64 g.a, .int .i64 g.b, .int .i64 g.c] 3 := by rw [hW]; (repeat (first | with_reducible assumption | with_reducible exact Blk.new' _ _ (by first | omega | (simp; done) | (simp; omega)) | with_reducible apply Blk.set5 | with_reducible apply Blk.set4 | with_reducible refine Blk.other ?_ (by first | omega | (simp; done) | (simp; omega)) _ | with_reducible refine Blk.drew ?_ | with_reducible refine Blk.alloc ?_ _ | with_reducible refine Blk.below ?_ (by assumption) (by first | omega | (simp; done) | (simp; omega))))
  have hb0 : Below w.heap.size w W := by rw [hW]; (repeat (first | with_reducible exact Below.refl _ _ | with_reducible assumption | with_reducible refine Below.setCell ?_ (by first | omega | (simp; done) | (simp; omega)) _ | with_reducible refine Below.alloc ?_ (by first | omega | (simp; done) | (simp; omega)) _ | with_reducible refine Below.drew ?_ | with_reducible refine belowDrewN ?_ _ | with_reducible refine Below.trans ?_ (Below.mono (by assumption) (by first | omega | (simp; done) | (simp; omega)))))
  have hb1 : Below w1.heap.size w1 W := by rw [hW]; (repeat (first | with_reducible exact Below.refl _ _ | with_reducible assumption | with_reducible refine Below.setCell ?_ (by first | omega | (simp; done) | (simp; omega)) _ | with_reducible refine Below.alloc ?_ (by first | omega | (simp; done) | (simp; omega)) _ | with_reducible refine Below.drew ?_ | with_reducible refine belowDrewN ?_ _ | with_reducible refine Below.trans ?_ (Below.mono (by assumption) (by first | omega | (simp; done) | (simp; omega)))))
  have hqW : ∀ i, i < L → W.cell? ⟨qb, i, none⟩ = some (.int .i64 (g.qs.getD i 0)) := fun i hi => by
    rw [hb1.cell (p := ⟨qb, i, none⟩) (hqz (by omega)), hqs i hi]
  clear hW hqs hc hf kk kf hb hb1
  obtain ⟨cB, fB, sB⟩ := hB.facts
  go_loopw [7] (fun v wr => ∃ j : Nat, v = .int .i64 j ∧ j ≤ 3 ∧ Hid (∀ i, i < j → g.chk (wrap64 (n - 1)) i = true) ∧ ∃ k, wr = W.drewN k) (fun v _ => 3 - (intOf v).toNat)
  case atStart => exact ⟨0, rfl, by omega, fun _ h => absurd h (Nat.not_lt_zero _), 0, rfl⟩
  case round =>
    obtain ⟨j, rfl, j0, hinv, k, rfl⟩ := hrel
    have hbk : Below w.heap.size w (W.drewN k) := belowDrewN hb0 k
    by_cases hj : j < 3
    · obtain ⟨q, hq⟩ : ∃ q, q = g.qs.getD j 0 := ⟨_, rfl⟩
      have hcell : W.cell? ⟨w1.heap.size, j, none⟩ = some (.int .i64 q) := by
        rw [cB, hq]
        have : j = 0 ∨ j = 1 ∨ j = 2 := by omega
        rcases this with rfl | rfl | rfl <;> rfl
      clear cB
      by_cases hL1 : L ≤ j
      · have hge := chk_ge (m := wrap64 (n - 1)) (show ar g.k ≤ j by omega)
        rw [← hq] at hge
        have hd1 : decide ((L : Int) ≤ (j : Int)) = true := by simp; omega
        have hd2 : decide (j < L) = false := by simp; omega
        by_cases hq0' : q = 0
        · have hst := Lib.hid (chk_step hinv.out (by rw [hge, decide_eq_true hq0']))
          have hd3 : (q != 0) = false := by rw [hq0']; rfl
          clear hge hq hinv hq0'
          go_wp2
          go_quiet (fail)
          go_wp2
          go_roundw
          case rel => exact ⟨j + 1, by go_num, by omega, hst.out, _, rfl⟩
          case measure => simp [intOf]; omega
        · have hfin := Lib.hid (GT.ok_no2 (g := g) (n := n) hj (by rw [hge]; simpa using hq0'))
          have hd3 : (q != 0) = true := by simpa using hq0'
          clear hge hq hinv hq0'
          go_wp2
          go_quiet (fail)
          go_wp2
          go_ret
          exact ⟨by rw [hfin.out]; rfl, belowDrewN (belowDrewN hb0 _) _⟩
      · have hlt := chk_lt (m := wrap64 (n - 1)) (show ¬ ar g.k ≤ j by omega)
        rw [← hq] at hlt
        obtain rfl := hq0 (by omega)
        have hd1 : decide ((L : Int) ≤ (j : Int)) = false := by simp; omega
        have hd2 : decide (j < L) = true := by simp; omega
        have hjc : j ≤ qc := by omega
        have hlenq : (g.qs.take j).length = j := by rw [List.length_take]; simp [GT.qs]; omega
        by_cases hin : inR 0 (wrap64 (n - 1)) q = true
        · by_cases hcon : (g.qs.take j).contains q = true
          · have hfin := Lib.hid (GT.ok_no2 (g := g) (n := n) hj (by rw [hlt, hcon]; simp))
            have hI : ∀ w', Calls Try.prog 102 #[.int .i64 q, .int .i64 0, .int .i64 (wrap64 (n - 1))] w' fun e w'' => e = .returned (.bool true) ∧ w' = w'' := fun w' => by
              have := sIn q 0 (wrap64 (n - 1)) w'
              rwa [hin] at this
            have hH : ∀ m, Calls Try.prog 103 #[.slice (some ⟨qb, 0, none⟩) j qc, .int .i64 q] (W.drewN m) fun e w'' => e = .returned (.bool true) ∧ W.drewN m = w'' := fun m => by
              have := sHasInt (some ⟨qb, 0, none⟩) qb 0 qc (g.qs.take j) q (W.drewN m) (by rw [hlenq]; omega) (fun _ => rfl) (fun i hi => by rw [hlenq] at hi; rw [Nat.zero_add, List.getElem_take, ← qs_get]; exact hqW i (by omega))
              rwa [hlenq, hcon] at this
            clear hlt hq hinv hin hcon hlenq hqW
            go_wp2
            go_quiet (first | (go_at_call 102; refine (hI _).mono ?_; rintro e w1 ⟨rfl, rfl⟩; exact ⟨rfl, _, rfl⟩) | (go_at_call 103; refine (hH _).mono ?_; rintro e w1 ⟨rfl, rfl⟩; exact ⟨rfl, _, rfl⟩))
            go_wp2
            go_ret
            exact ⟨by rw [hfin.out]; rfl, belowDrewN (belowDrewN hb0 _) _⟩
          · have hcon : (g.qs.take j).contains q = false := by simpa using hcon
            have hst := Lib.hid (chk_step hinv.out (by rw [hlt, hin, hcon]; rfl))
            have hI : ∀ w', Calls Try.prog 102 #[.int .i64 q, .int .i64 0, .int .i64 (wrap64 (n - 1))] w' fun e w'' => e = .returned (.bool true) ∧ w' = w'' := fun w' => by
              have := sIn q 0 (wrap64 (n - 1)) w'
              rwa [hin] at this
            have hH : ∀ m, Calls Try.prog 103 #[.slice (some ⟨qb, 0, none⟩) j qc, .int .i64 q] (W.drewN m) fun e w'' => e = .returned (.bool false) ∧ W.drewN m = w'' := fun m => by
              have := sHasInt (some ⟨qb, 0, none⟩) qb 0 qc (g.qs.take j) q (W.drewN m) (by rw [hlenq]; omega) (fun _ => rfl) (fun i hi => by rw [hlenq] at hi; rw [Nat.zero_add, List.getElem_take, ← qs_get]; exact hqW i (by omega))
              rwa [hlenq, hcon] at this
            clear hlt hq hinv hin hcon hlenq hqW
            go_wp2
            go_quiet (first | (go_at_call 102; refine (hI _).mono ?_; rintro e w1 ⟨rfl, rfl⟩; exact ⟨rfl, _, rfl⟩) | (go_at_call 103; refine (hH _).mono ?_; rintro e w1 ⟨rfl, rfl⟩; exact ⟨rfl, _, rfl⟩))
            go_wp2
            go_roundw
            case rel => exact ⟨j + 1, by go_num, by omega, hst.out, _, rfl⟩
            case measure => simp [intOf]; omega
        · have hin : inR 0 (wrap64 (n - 1)) q = false := by simpa using hin
          have hfin := Lib.hid (GT.ok_no2 (g := g) (n := n) hj (by rw [hlt, hin]; simp))
          have hI : ∀ w', Calls Try.prog 102 #[.int .i64 q, .int .i64 0, .int .i64 (wrap64 (n - 1))] w' fun e w'' => e = .returned (.bool false) ∧ w' = w'' := fun w' => by
            have := sIn q 0 (wrap64 (n - 1)) w'
            rwa [hin] at this
          clear hlt hq hinv hin hlenq hqW
          go_wp2
          go_quiet (((go_at_call 102; refine (hI _).mono ?_; rintro e w1 ⟨rfl, rfl⟩; exact ⟨rfl, _, rfl⟩)))
          go_wp2
          go_ret
          exact ⟨by rw [hfin.out]; rfl, belowDrewN (belowDrewN hb0 _) _⟩
    · have hf := GT.ok_end (n := n) hL (fun i hi => hinv.out i (by omega))
      clear hinv
      by_cases hp : 0 < L
      · rw [decide_eq_true hp, Bool.true_and] at hf
        have hfin := Lib.hid hf
        clear hf
        go_wp2_with (go_at_call 102; refine (sIn _ _ _ _).mono ?_; rintro e w1 ⟨rfl, rfl⟩)
        go_ret
        exact ⟨by rw [hfin.out]; rfl, belowDrewN hb0 _⟩
      · rw [decide_eq_false hp, Bool.false_and] at hf
        have hfin := Lib.hid hf
        clear hf
        go_wp2_with (go_at_call 102; refine (sIn _ _ _ _).mono ?_; rintro e w1 ⟨rfl, rfl⟩)
        go_ret
        exact ⟨by rw [hfin.out]; rfl, belowDrewN hb0 _⟩

end Go.Proofs.Yteckhaafdojoeaa

/-! S28: Where an amplitude goes (spec.l10Goes). -/
namespace Go.Proofs.Yteckhaafdojoeaa
open Go.RowKit BigFrame

/-- The block b reads as a list of places and factors. -/
def GoR (w : World) (b : Nat) (l : List (Nat × DO)) : Prop :=
  ∀ k (h : k < l.length), b < w.heap.size ∧ w.cell? ⟨b, k * 6, none⟩ = some (.int .i64 l[k].1) ∧ DAt w b (k * 6 + 1) l[k].2
theorem GoR.below {w w' : World} {b : Nat} {l : List (Nat × DO)} (h : GoR w b l) (hb : Below w.heap.size w w') : GoR w' b l := fun k hk => by
  obtain ⟨h1, h2, h3⟩ := h k hk
  exact ⟨Nat.lt_of_lt_of_le h1 hb.size, by rw [hb.cell (p := ⟨b, k * 6, none⟩) h1, h2], h3.below hb h1⟩
def sent (p : Nat × DO) : List Value := .int .i64 p.1 :: dcells p.2
theorem GoR.one {w : World} {b : Nat} {p : Nat × DO} {t : TypeId} (h : Blk w b (sent p) t) : GoR w b [p] := fun k hk => by
  have : k = 0 := by simp at hk; omega
  subst this
  exact ⟨h.lt, h.cell 0, h.cell 1, h.cell 2, h.cell 3, h.cell 4, h.cell 5⟩
theorem GoR.two {w : World} {b : Nat} {p q : Nat × DO} {t : TypeId} (h : Blk w b (sent p ++ sent q) t) : GoR w b [p, q] := fun k hk => by
  have : k = 0 ∨ k = 1 := by simp at hk; omega
  rcases this with rfl | rfl
  · exact ⟨h.lt, h.cell 0, h.cell 1, h.cell 2, h.cell 3, h.cell 4, h.cell 5⟩
  · exact ⟨h.lt, h.cell 6, h.cell 7, h.cell 8, h.cell 9, h.cell 10, h.cell 11⟩

/-- A list of places and factors is returned. -/
def OutGo (w : World) (l : List (Nat × DO)) (e : Ending) (w' : World) : Prop := ∃ b c, e = .returned (.slice (some ⟨b, 0, none⟩) l.length c) ∧ GoR w' b l ∧ w.heap.size ≤ b ∧ Below w.heap.size w w'
set_option maxHeartbeats 4000000 in
theorem sl10Phase (i p : Nat) (turn : Bool) (hp : p < 8) (w : World) :
    Calls Try.prog 166 #[.int .i64 i, .bool turn, .int .i64 p] w (OutGo w [(i, ph (if turn then p else 0))]) := by
  cases turn
  · go_enter Try.func166, Try.ntmps166
    go_wp2_with (go_at_call 136; refine (sPhase 0 (by decide) _).mono ?_; rintro e w1 ⟨rfl, hb⟩; obtain ⟨hc, hf, hz⟩ := bcell hb; (try simp only [World.size_drew, World.cell?_drew, World.frozen?_drew] at hc hf hz); (try simp at hz); (try have kk := fun o => hc (w.heap.size) o (by first | omega | (simp; done) | (simp; omega))); (try have kf := fun o => hf (w.heap.size) o (by first | omega | (simp; done) | (simp; omega))); (try have zz : w.heap.size < w1.heap.size := by omega))
    go_ret
    exact ⟨w1.heap.size, _, rfl, GoR.one (t := 128) (Blk.new' _ _ rfl), by first | omega | (have := hb.size; simp at this; omega), by (repeat (first | with_reducible exact Below.refl _ _ | with_reducible assumption | with_reducible refine Below.setCell ?_ (by first | omega | (simp; done) | (simp; omega)) _ | with_reducible refine Below.alloc ?_ (by first | omega | (simp; done) | (simp; omega)) _ | with_reducible refine Below.drew ?_ | with_reducible refine belowDrewN ?_ _ | with_reducible refine Below.trans ?_ (Below.mono (by assumption) (by first | omega | (simp; done) | (simp; omega)))))⟩
  · go_enter Try.func166, Try.ntmps166
    go_wp2_with (go_at_call 136; refine (sPhase p hp _).mono ?_; rintro e w1 ⟨rfl, hb⟩; obtain ⟨hc, hf, hz⟩ := bcell hb; (try simp only [World.size_drew, World.cell?_drew, World.frozen?_drew] at hc hf hz); (try simp at hz); (try have kk := fun o => hc (w.heap.size) o (by first | omega | (simp; done) | (simp; omega))); (try have kf := fun o => hf (w.heap.size) o (by first | omega | (simp; done) | (simp; omega))); (try have zz : w.heap.size < w1.heap.size := by omega))
    go_ret
    exact ⟨w1.heap.size, _, rfl, GoR.one (t := 128) (Blk.new' _ _ rfl), by first | omega | (have := hb.size; simp at this; omega), by (repeat (first | with_reducible exact Below.refl _ _ | with_reducible assumption | with_reducible refine Below.setCell ?_ (by first | omega | (simp; done) | (simp; omega)) _ | with_reducible refine Below.alloc ?_ (by first | omega | (simp; done) | (simp; omega)) _ | with_reducible refine Below.drew ?_ | with_reducible refine belowDrewN ?_ _ | with_reducible refine Below.trans ?_ (Below.mono (by assumption) (by first | omega | (simp; done) | (simp; omega)))))⟩
set_option maxHeartbeats 4000000 in
theorem sl10Flip (i q : Nat) (turn : Bool) (hi : i < 16) (hq : q < 4) (w : World) :
    Calls Try.prog 165 #[.int .i64 i, .int .i64 q, .bool turn] w (OutGo w [(if turn then i ^^^ 2 ^ q else i, ph 0)]) := by
  have xq := xor_shl i hi q hq
  cases turn
  · go_enter Try.func165, Try.ntmps165
    go_wp2_with (go_at_call 136; refine (sPhase 0 (by decide) _).mono ?_; rintro e w1 ⟨rfl, hb⟩; obtain ⟨hc, hf, hz⟩ := bcell hb; (try simp only [World.size_drew, World.cell?_drew, World.frozen?_drew] at hc hf hz); (try simp at hz); (try have kk := fun o => hc (w.heap.size) o (by first | omega | (simp; done) | (simp; omega))); (try have kf := fun o => hf (w.heap.size) o (by first | omega | (simp; done) | (simp; omega))); (try have zz : w.heap.size < w1.heap.size := by omega))
    go_ret
    exact ⟨w1.heap.size, _, rfl, GoR.one (t := 128) (Blk.new' _ _ rfl), by first | omega | (have := hb.size; simp at this; omega), by (repeat (first | with_reducible exact Below.refl _ _ | with_reducible assumption | with_reducible refine Below.setCell ?_ (by first | omega | (simp; done) | (simp; omega)) _ | with_reducible refine Below.alloc ?_ (by first | omega | (simp; done) | (simp; omega)) _ | with_reducible refine Below.drew ?_ | with_reducible refine belowDrewN ?_ _ | with_reducible refine Below.trans ?_ (Below.mono (by assumption) (by first | omega | (simp; done) | (simp; omega)))))⟩
  · go_enter Try.func165, Try.ntmps165
    go_wp2_with (go_at_call 136; refine (sPhase 0 (by decide) _).mono ?_; rintro e w1 ⟨rfl, hb⟩; obtain ⟨hc, hf, hz⟩ := bcell hb; (try simp only [World.size_drew, World.cell?_drew, World.frozen?_drew] at hc hf hz); (try simp at hz); (try have kk := fun o => hc (w.heap.size) o (by first | omega | (simp; done) | (simp; omega))); (try have kf := fun o => hf (w.heap.size) o (by first | omega | (simp; done) | (simp; omega))); (try have zz : w.heap.size < w1.heap.size := by omega))
    go_ret
    exact ⟨w1.heap.size, _, rfl, GoR.one (t := 128) (Blk.new' _ _ rfl), by first | omega | (have := hb.size; simp at this; omega), by (repeat (first | with_reducible exact Below.refl _ _ | with_reducible assumption | with_reducible refine Below.setCell ?_ (by first | omega | (simp; done) | (simp; omega)) _ | with_reducible refine Below.alloc ?_ (by first | omega | (simp; done) | (simp; omega)) _ | with_reducible refine Below.drew ?_ | with_reducible refine belowDrewN ?_ _ | with_reducible refine Below.trans ?_ (Below.mono (by assumption) (by first | omega | (simp; done) | (simp; omega)))))⟩

end Go.Proofs.Yteckhaafdojoeaa

/-! S32: Where an amplitude goes (spec.l10Goes): all kinds. -/
namespace Go.Proofs.Yteckhaafdojoeaa
open Go.RowKit BigFrame

theorem xor_shlu : ∀ i, i < 16 → ∀ q, q < 4 → bits .xor .i64 (i : Nat) (IntKind.i64.wrap (2 ^ min (IntKind.u64.wrap (q : Nat)).toNat 64)) = ((i ^^^ 2 ^ q : Nat) : Int) := by decide +kernel
theorem goes_of {k : Int} {A B C i t p : Nat} (hk : ¬ k = 4) (hm : mv k A B C i = (t, p)) : goes ⟨k, A, B, C⟩ i = [(t, ph p)] := by
  rw [goes, if_neg hk]
  show [((mv k A B C i).1, ph (mv k A B C i).2)] = _
  rw [hm]

set_option maxHeartbeats 4000000 in
theorem sGoes1 (A B C i : Nat) (hA : A < 4) (hB : B < 4) (_hC : C < 4) (hi : i < 16) (w : World) :
    Calls Try.prog 120 #[Gv ⟨1, A, B, C⟩, .int .i64 i] w (OutGo w (goes ⟨1, A, B, C⟩ i)) := by
  have eA := bits_and1 i hi A hA
  have eB := bits_and1 i hi B hB
  have bA := bit_lt A i
  have bB := bit_lt B i
  rcases (show bit A i = 0 ∨ bit A i = 1 by omega) with ha | ha
  · rcases (show bit B i = 0 ∨ bit B i = 1 by omega) with hb | hb
    · have hm : mv 1 A B C i = (i ^^^ 2 ^ A, 0) := by simp [mv]
      rw [goes_of (by decide) hm]
      have fA : bits .and .i64 ((i : Int) / 2 ^ A) 1 = 0 := eA.trans (congrArg (fun n : Nat => (n : Int)) ha)
      have fB : bits .and .i64 ((i : Int) / 2 ^ B) 1 = 0 := eB.trans (congrArg (fun n : Nat => (n : Int)) hb)
      clear eA eB ha hb hm bA bB
      go_enter Try.func120, Try.ntmps120
      go_wp2_with (first | (go_at_call 165; refine (sl10Flip _ _ _ hi (by assumption) _).mono ?_; rintro e w1 ⟨b, c, rfl, hR, hw, hb⟩) | (go_at_call 166; refine (sl10Phase _ _ _ (by decide) _).mono ?_; rintro e w1 ⟨b, c, rfl, hR, hw, hb⟩))
      go_ret
      exact ⟨b, c, rfl, hR, by simp at hw; omega, by (repeat (first | with_reducible exact Below.refl _ _ | with_reducible assumption | with_reducible refine Below.setCell ?_ (by first | omega | (simp; done) | (simp; omega)) _ | with_reducible refine Below.alloc ?_ (by first | omega | (simp; done) | (simp; omega)) _ | with_reducible refine Below.drew ?_ | with_reducible refine belowDrewN ?_ _ | with_reducible refine Below.trans ?_ (Below.mono (by assumption) (by first | omega | (simp; done) | (simp; omega)))))⟩
    · have hm : mv 1 A B C i = (i ^^^ 2 ^ A, 0) := by simp [mv]
      rw [goes_of (by decide) hm]
      have fA : bits .and .i64 ((i : Int) / 2 ^ A) 1 = 0 := eA.trans (congrArg (fun n : Nat => (n : Int)) ha)
      have fB : bits .and .i64 ((i : Int) / 2 ^ B) 1 = 1 := eB.trans (congrArg (fun n : Nat => (n : Int)) hb)
      clear eA eB ha hb hm bA bB
      go_enter Try.func120, Try.ntmps120
      go_wp2_with (first | (go_at_call 165; refine (sl10Flip _ _ _ hi (by assumption) _).mono ?_; rintro e w1 ⟨b, c, rfl, hR, hw, hb⟩) | (go_at_call 166; refine (sl10Phase _ _ _ (by decide) _).mono ?_; rintro e w1 ⟨b, c, rfl, hR, hw, hb⟩))
      go_ret
      exact ⟨b, c, rfl, hR, by simp at hw; omega, by (repeat (first | with_reducible exact Below.refl _ _ | with_reducible assumption | with_reducible refine Below.setCell ?_ (by first | omega | (simp; done) | (simp; omega)) _ | with_reducible refine Below.alloc ?_ (by first | omega | (simp; done) | (simp; omega)) _ | with_reducible refine Below.drew ?_ | with_reducible refine belowDrewN ?_ _ | with_reducible refine Below.trans ?_ (Below.mono (by assumption) (by first | omega | (simp; done) | (simp; omega)))))⟩
  · rcases (show bit B i = 0 ∨ bit B i = 1 by omega) with hb | hb
    · have hm : mv 1 A B C i = (i ^^^ 2 ^ A, 0) := by simp [mv]
      rw [goes_of (by decide) hm]
      have fA : bits .and .i64 ((i : Int) / 2 ^ A) 1 = 1 := eA.trans (congrArg (fun n : Nat => (n : Int)) ha)
      have fB : bits .and .i64 ((i : Int) / 2 ^ B) 1 = 0 := eB.trans (congrArg (fun n : Nat => (n : Int)) hb)
      clear eA eB ha hb hm bA bB
      go_enter Try.func120, Try.ntmps120
      go_wp2_with (first | (go_at_call 165; refine (sl10Flip _ _ _ hi (by assumption) _).mono ?_; rintro e w1 ⟨b, c, rfl, hR, hw, hb⟩) | (go_at_call 166; refine (sl10Phase _ _ _ (by decide) _).mono ?_; rintro e w1 ⟨b, c, rfl, hR, hw, hb⟩))
      go_ret
      exact ⟨b, c, rfl, hR, by simp at hw; omega, by (repeat (first | with_reducible exact Below.refl _ _ | with_reducible assumption | with_reducible refine Below.setCell ?_ (by first | omega | (simp; done) | (simp; omega)) _ | with_reducible refine Below.alloc ?_ (by first | omega | (simp; done) | (simp; omega)) _ | with_reducible refine Below.drew ?_ | with_reducible refine belowDrewN ?_ _ | with_reducible refine Below.trans ?_ (Below.mono (by assumption) (by first | omega | (simp; done) | (simp; omega)))))⟩
    · have hm : mv 1 A B C i = (i ^^^ 2 ^ A, 0) := by simp [mv]
      rw [goes_of (by decide) hm]
      have fA : bits .and .i64 ((i : Int) / 2 ^ A) 1 = 1 := eA.trans (congrArg (fun n : Nat => (n : Int)) ha)
      have fB : bits .and .i64 ((i : Int) / 2 ^ B) 1 = 1 := eB.trans (congrArg (fun n : Nat => (n : Int)) hb)
      clear eA eB ha hb hm bA bB
      go_enter Try.func120, Try.ntmps120
      go_wp2_with (first | (go_at_call 165; refine (sl10Flip _ _ _ hi (by assumption) _).mono ?_; rintro e w1 ⟨b, c, rfl, hR, hw, hb⟩) | (go_at_call 166; refine (sl10Phase _ _ _ (by decide) _).mono ?_; rintro e w1 ⟨b, c, rfl, hR, hw, hb⟩))
      go_ret
      exact ⟨b, c, rfl, hR, by simp at hw; omega, by (repeat (first | with_reducible exact Below.refl _ _ | with_reducible assumption | with_reducible refine Below.setCell ?_ (by first | omega | (simp; done) | (simp; omega)) _ | with_reducible refine Below.alloc ?_ (by first | omega | (simp; done) | (simp; omega)) _ | with_reducible refine Below.drew ?_ | with_reducible refine belowDrewN ?_ _ | with_reducible refine Below.trans ?_ (Below.mono (by assumption) (by first | omega | (simp; done) | (simp; omega)))))⟩
set_option maxHeartbeats 4000000 in
theorem sGoes2 (A B C i : Nat) (hA : A < 4) (hB : B < 4) (_hC : C < 4) (hi : i < 16) (w : World) :
    Calls Try.prog 120 #[Gv ⟨2, A, B, C⟩, .int .i64 i] w (OutGo w (goes ⟨2, A, B, C⟩ i)) := by
  have eA := bits_and1 i hi A hA
  have eB := bits_and1 i hi B hB
  have bA := bit_lt A i
  have bB := bit_lt B i
  have xA := xor_shl i hi A hA
  rcases (show bit A i = 0 ∨ bit A i = 1 by omega) with ha | ha
  · rcases (show bit B i = 0 ∨ bit B i = 1 by omega) with hb | hb
    · have hm : mv 2 A B C i = (i ^^^ 2 ^ A, 2) := by simp [mv, ha]
      rw [goes_of (by decide) hm]
      have fA : bits .and .i64 ((i : Int) / 2 ^ A) 1 = 0 := eA.trans (congrArg (fun n : Nat => (n : Int)) ha)
      have fB : bits .and .i64 ((i : Int) / 2 ^ B) 1 = 0 := eB.trans (congrArg (fun n : Nat => (n : Int)) hb)
      clear eA eB ha hb hm bA bB
      go_enter Try.func120, Try.ntmps120
      go_wp2
      refine wp_gen fun W hW => ?_
      have hB : Blk W w.heap.size [.int .i64 2, .int .i64 A, .int .i64 B, .int .i64 C] 59 := by rw [hW]; exact Blk.new' _ _ rfl
      have hb0 : Below w.heap.size w W := by rw [hW]; (repeat (first | with_reducible exact Below.refl _ _ | with_reducible assumption | with_reducible refine Below.setCell ?_ (by first | omega | (simp; done) | (simp; omega)) _ | with_reducible refine Below.alloc ?_ (by first | omega | (simp; done) | (simp; omega)) _ | with_reducible refine Below.drew ?_ | with_reducible refine belowDrewN ?_ _ | with_reducible refine Below.trans ?_ (Below.mono (by assumption) (by first | omega | (simp; done) | (simp; omega)))))
      have hs0 : w.heap.size + 1 ≤ W.heap.size := by rw [hW]; simp
      clear hW
      obtain ⟨cB, fB, sB⟩ := hB.facts
      go_region_held3 (fun w' => Below W.heap.size W w' ∧ (∀ b o, b < W.heap.size → w'.cell? ⟨b, o, none⟩ = W.cell? ⟨b, o, none⟩) ∧ (∀ b o, b < W.heap.size → w'.frozen? ⟨b, o, none⟩ = W.frozen? ⟨b, o, none⟩) ∧ W.heap.size ≤ w'.heap.size) ((exact bpack (by (repeat (first | with_reducible exact Below.refl _ _ | with_reducible assumption | with_reducible refine Below.setCell ?_ (by first | omega | (simp; done) | (simp; omega)) _ | with_reducible refine Below.alloc ?_ (by first | omega | (simp; done) | (simp; omega)) _ | with_reducible refine Below.drew ?_ | with_reducible refine belowDrewN ?_ _ | with_reducible refine Below.trans ?_ (Below.mono (by assumption) (by first | omega | (simp; done) | (simp; omega)))))))) (first | (go_at_call 136; refine (sPhase 2 (by decide) _).mono ?_; rintro e w1 ⟨rfl, hb⟩; obtain ⟨hc, hf, hz⟩ := bcell hb; (try simp only [World.size_drew, World.cell?_drew, World.frozen?_drew] at hc hf hz); (try simp at hz); (try have kk := fun o => hc (w.heap.size) o (by first | omega | (simp; done) | (simp; omega))); (try have kf := fun o => hf (w.heap.size) o (by first | omega | (simp; done) | (simp; omega))); (try have zz : w.heap.size < w1.heap.size := by omega); (try have kk := fun o => hc (W.heap.size) o (by first | omega | (simp; done) | (simp; omega))); (try have kf := fun o => hf (W.heap.size) o (by first | omega | (simp; done) | (simp; omega))); (try have zz : W.heap.size < w1.heap.size := by omega)))
      all_goals go_wp2
      all_goals go_ret
      all_goals rw [xor_shlu i hi A hA]
      all_goals exact ⟨_, _, rfl, GoR.one (t := 128) (Blk.new' _ _ rfl), by first | omega | (simp; done) | (simp; omega), by (repeat (first | with_reducible exact Below.refl _ _ | with_reducible assumption | with_reducible refine Below.setCell ?_ (by first | omega | (simp; done) | (simp; omega)) _ | with_reducible refine Below.alloc ?_ (by first | omega | (simp; done) | (simp; omega)) _ | with_reducible refine Below.drew ?_ | with_reducible refine belowDrewN ?_ _ | with_reducible refine Below.trans ?_ (Below.mono (by assumption) (by first | omega | (simp; done) | (simp; omega)))))⟩
    · have hm : mv 2 A B C i = (i ^^^ 2 ^ A, 2) := by simp [mv, ha]
      rw [goes_of (by decide) hm]
      have fA : bits .and .i64 ((i : Int) / 2 ^ A) 1 = 0 := eA.trans (congrArg (fun n : Nat => (n : Int)) ha)
      have fB : bits .and .i64 ((i : Int) / 2 ^ B) 1 = 1 := eB.trans (congrArg (fun n : Nat => (n : Int)) hb)
      clear eA eB ha hb hm bA bB
      go_enter Try.func120, Try.ntmps120
      go_wp2
      refine wp_gen fun W hW => ?_
      have hB : Blk W w.heap.size [.int .i64 2, .int .i64 A, .int .i64 B, .int .i64 C] 59 := by rw [hW]; exact Blk.new' _ _ rfl
      have hb0 : Below w.heap.size w W := by rw [hW]; (repeat (first | with_reducible exact Below.refl _ _ | with_reducible assumption | with_reducible refine Below.setCell ?_ (by first | omega | (simp; done) | (simp; omega)) _ | with_reducible refine Below.alloc ?_ (by first | omega | (simp; done) | (simp; omega)) _ | with_reducible refine Below.drew ?_ | with_reducible refine belowDrewN ?_ _ | with_reducible refine Below.trans ?_ (Below.mono (by assumption) (by first | omega | (simp; done) | (simp; omega)))))
      have hs0 : w.heap.size + 1 ≤ W.heap.size := by rw [hW]; simp
      clear hW
      obtain ⟨cB, fB, sB⟩ := hB.facts
      go_region_held3 (fun w' => Below W.heap.size W w' ∧ (∀ b o, b < W.heap.size → w'.cell? ⟨b, o, none⟩ = W.cell? ⟨b, o, none⟩) ∧ (∀ b o, b < W.heap.size → w'.frozen? ⟨b, o, none⟩ = W.frozen? ⟨b, o, none⟩) ∧ W.heap.size ≤ w'.heap.size) ((exact bpack (by (repeat (first | with_reducible exact Below.refl _ _ | with_reducible assumption | with_reducible refine Below.setCell ?_ (by first | omega | (simp; done) | (simp; omega)) _ | with_reducible refine Below.alloc ?_ (by first | omega | (simp; done) | (simp; omega)) _ | with_reducible refine Below.drew ?_ | with_reducible refine belowDrewN ?_ _ | with_reducible refine Below.trans ?_ (Below.mono (by assumption) (by first | omega | (simp; done) | (simp; omega)))))))) (first | (go_at_call 136; refine (sPhase 2 (by decide) _).mono ?_; rintro e w1 ⟨rfl, hb⟩; obtain ⟨hc, hf, hz⟩ := bcell hb; (try simp only [World.size_drew, World.cell?_drew, World.frozen?_drew] at hc hf hz); (try simp at hz); (try have kk := fun o => hc (w.heap.size) o (by first | omega | (simp; done) | (simp; omega))); (try have kf := fun o => hf (w.heap.size) o (by first | omega | (simp; done) | (simp; omega))); (try have zz : w.heap.size < w1.heap.size := by omega); (try have kk := fun o => hc (W.heap.size) o (by first | omega | (simp; done) | (simp; omega))); (try have kf := fun o => hf (W.heap.size) o (by first | omega | (simp; done) | (simp; omega))); (try have zz : W.heap.size < w1.heap.size := by omega)))
      all_goals go_wp2
      all_goals go_ret
      all_goals rw [xor_shlu i hi A hA]
      all_goals exact ⟨_, _, rfl, GoR.one (t := 128) (Blk.new' _ _ rfl), by first | omega | (simp; done) | (simp; omega), by (repeat (first | with_reducible exact Below.refl _ _ | with_reducible assumption | with_reducible refine Below.setCell ?_ (by first | omega | (simp; done) | (simp; omega)) _ | with_reducible refine Below.alloc ?_ (by first | omega | (simp; done) | (simp; omega)) _ | with_reducible refine Below.drew ?_ | with_reducible refine belowDrewN ?_ _ | with_reducible refine Below.trans ?_ (Below.mono (by assumption) (by first | omega | (simp; done) | (simp; omega)))))⟩
  · rcases (show bit B i = 0 ∨ bit B i = 1 by omega) with hb | hb
    · have hm : mv 2 A B C i = (i ^^^ 2 ^ A, 6) := by simp [mv, ha]
      rw [goes_of (by decide) hm]
      have fA : bits .and .i64 ((i : Int) / 2 ^ A) 1 = 1 := eA.trans (congrArg (fun n : Nat => (n : Int)) ha)
      have fB : bits .and .i64 ((i : Int) / 2 ^ B) 1 = 0 := eB.trans (congrArg (fun n : Nat => (n : Int)) hb)
      clear eA eB ha hb hm bA bB
      go_enter Try.func120, Try.ntmps120
      go_wp2
      refine wp_gen fun W hW => ?_
      have hB : Blk W w.heap.size [.int .i64 2, .int .i64 A, .int .i64 B, .int .i64 C] 59 := by rw [hW]; exact Blk.new' _ _ rfl
      have hb0 : Below w.heap.size w W := by rw [hW]; (repeat (first | with_reducible exact Below.refl _ _ | with_reducible assumption | with_reducible refine Below.setCell ?_ (by first | omega | (simp; done) | (simp; omega)) _ | with_reducible refine Below.alloc ?_ (by first | omega | (simp; done) | (simp; omega)) _ | with_reducible refine Below.drew ?_ | with_reducible refine belowDrewN ?_ _ | with_reducible refine Below.trans ?_ (Below.mono (by assumption) (by first | omega | (simp; done) | (simp; omega)))))
      have hs0 : w.heap.size + 1 ≤ W.heap.size := by rw [hW]; simp
      clear hW
      obtain ⟨cB, fB, sB⟩ := hB.facts
      go_region_held3 (fun w' => Below W.heap.size W w' ∧ (∀ b o, b < W.heap.size → w'.cell? ⟨b, o, none⟩ = W.cell? ⟨b, o, none⟩) ∧ (∀ b o, b < W.heap.size → w'.frozen? ⟨b, o, none⟩ = W.frozen? ⟨b, o, none⟩) ∧ W.heap.size ≤ w'.heap.size) ((exact bpack (by (repeat (first | with_reducible exact Below.refl _ _ | with_reducible assumption | with_reducible refine Below.setCell ?_ (by first | omega | (simp; done) | (simp; omega)) _ | with_reducible refine Below.alloc ?_ (by first | omega | (simp; done) | (simp; omega)) _ | with_reducible refine Below.drew ?_ | with_reducible refine belowDrewN ?_ _ | with_reducible refine Below.trans ?_ (Below.mono (by assumption) (by first | omega | (simp; done) | (simp; omega)))))))) (first | (go_at_call 136; refine (sPhase 6 (by decide) _).mono ?_; rintro e w1 ⟨rfl, hb⟩; obtain ⟨hc, hf, hz⟩ := bcell hb; (try simp only [World.size_drew, World.cell?_drew, World.frozen?_drew] at hc hf hz); (try simp at hz); (try have kk := fun o => hc (w.heap.size) o (by first | omega | (simp; done) | (simp; omega))); (try have kf := fun o => hf (w.heap.size) o (by first | omega | (simp; done) | (simp; omega))); (try have zz : w.heap.size < w1.heap.size := by omega); (try have kk := fun o => hc (W.heap.size) o (by first | omega | (simp; done) | (simp; omega))); (try have kf := fun o => hf (W.heap.size) o (by first | omega | (simp; done) | (simp; omega))); (try have zz : W.heap.size < w1.heap.size := by omega)))
      all_goals go_wp2
      all_goals go_ret
      all_goals rw [xor_shlu i hi A hA]
      all_goals exact ⟨_, _, rfl, GoR.one (t := 128) (Blk.new' _ _ rfl), by first | omega | (simp; done) | (simp; omega), by (repeat (first | with_reducible exact Below.refl _ _ | with_reducible assumption | with_reducible refine Below.setCell ?_ (by first | omega | (simp; done) | (simp; omega)) _ | with_reducible refine Below.alloc ?_ (by first | omega | (simp; done) | (simp; omega)) _ | with_reducible refine Below.drew ?_ | with_reducible refine belowDrewN ?_ _ | with_reducible refine Below.trans ?_ (Below.mono (by assumption) (by first | omega | (simp; done) | (simp; omega)))))⟩
    · have hm : mv 2 A B C i = (i ^^^ 2 ^ A, 6) := by simp [mv, ha]
      rw [goes_of (by decide) hm]
      have fA : bits .and .i64 ((i : Int) / 2 ^ A) 1 = 1 := eA.trans (congrArg (fun n : Nat => (n : Int)) ha)
      have fB : bits .and .i64 ((i : Int) / 2 ^ B) 1 = 1 := eB.trans (congrArg (fun n : Nat => (n : Int)) hb)
      clear eA eB ha hb hm bA bB
      go_enter Try.func120, Try.ntmps120
      go_wp2
      refine wp_gen fun W hW => ?_
      have hB : Blk W w.heap.size [.int .i64 2, .int .i64 A, .int .i64 B, .int .i64 C] 59 := by rw [hW]; exact Blk.new' _ _ rfl
      have hb0 : Below w.heap.size w W := by rw [hW]; (repeat (first | with_reducible exact Below.refl _ _ | with_reducible assumption | with_reducible refine Below.setCell ?_ (by first | omega | (simp; done) | (simp; omega)) _ | with_reducible refine Below.alloc ?_ (by first | omega | (simp; done) | (simp; omega)) _ | with_reducible refine Below.drew ?_ | with_reducible refine belowDrewN ?_ _ | with_reducible refine Below.trans ?_ (Below.mono (by assumption) (by first | omega | (simp; done) | (simp; omega)))))
      have hs0 : w.heap.size + 1 ≤ W.heap.size := by rw [hW]; simp
      clear hW
      obtain ⟨cB, fB, sB⟩ := hB.facts
      go_region_held3 (fun w' => Below W.heap.size W w' ∧ (∀ b o, b < W.heap.size → w'.cell? ⟨b, o, none⟩ = W.cell? ⟨b, o, none⟩) ∧ (∀ b o, b < W.heap.size → w'.frozen? ⟨b, o, none⟩ = W.frozen? ⟨b, o, none⟩) ∧ W.heap.size ≤ w'.heap.size) ((exact bpack (by (repeat (first | with_reducible exact Below.refl _ _ | with_reducible assumption | with_reducible refine Below.setCell ?_ (by first | omega | (simp; done) | (simp; omega)) _ | with_reducible refine Below.alloc ?_ (by first | omega | (simp; done) | (simp; omega)) _ | with_reducible refine Below.drew ?_ | with_reducible refine belowDrewN ?_ _ | with_reducible refine Below.trans ?_ (Below.mono (by assumption) (by first | omega | (simp; done) | (simp; omega)))))))) (first | (go_at_call 136; refine (sPhase 6 (by decide) _).mono ?_; rintro e w1 ⟨rfl, hb⟩; obtain ⟨hc, hf, hz⟩ := bcell hb; (try simp only [World.size_drew, World.cell?_drew, World.frozen?_drew] at hc hf hz); (try simp at hz); (try have kk := fun o => hc (w.heap.size) o (by first | omega | (simp; done) | (simp; omega))); (try have kf := fun o => hf (w.heap.size) o (by first | omega | (simp; done) | (simp; omega))); (try have zz : w.heap.size < w1.heap.size := by omega); (try have kk := fun o => hc (W.heap.size) o (by first | omega | (simp; done) | (simp; omega))); (try have kf := fun o => hf (W.heap.size) o (by first | omega | (simp; done) | (simp; omega))); (try have zz : W.heap.size < w1.heap.size := by omega)))
      all_goals go_wp2
      all_goals go_ret
      all_goals rw [xor_shlu i hi A hA]
      all_goals exact ⟨_, _, rfl, GoR.one (t := 128) (Blk.new' _ _ rfl), by first | omega | (simp; done) | (simp; omega), by (repeat (first | with_reducible exact Below.refl _ _ | with_reducible assumption | with_reducible refine Below.setCell ?_ (by first | omega | (simp; done) | (simp; omega)) _ | with_reducible refine Below.alloc ?_ (by first | omega | (simp; done) | (simp; omega)) _ | with_reducible refine Below.drew ?_ | with_reducible refine belowDrewN ?_ _ | with_reducible refine Below.trans ?_ (Below.mono (by assumption) (by first | omega | (simp; done) | (simp; omega)))))⟩
set_option maxHeartbeats 4000000 in
theorem sGoes3 (A B C i : Nat) (hA : A < 4) (hB : B < 4) (_hC : C < 4) (hi : i < 16) (w : World) :
    Calls Try.prog 120 #[Gv ⟨3, A, B, C⟩, .int .i64 i] w (OutGo w (goes ⟨3, A, B, C⟩ i)) := by
  have eA := bits_and1 i hi A hA
  have eB := bits_and1 i hi B hB
  have bA := bit_lt A i
  have bB := bit_lt B i
  rcases (show bit A i = 0 ∨ bit A i = 1 by omega) with ha | ha
  · rcases (show bit B i = 0 ∨ bit B i = 1 by omega) with hb | hb
    · have hm : mv 3 A B C i = (i, 0) := by simp [mv, ha]
      rw [goes_of (by decide) hm]
      have fA : bits .and .i64 ((i : Int) / 2 ^ A) 1 = 0 := eA.trans (congrArg (fun n : Nat => (n : Int)) ha)
      have fB : bits .and .i64 ((i : Int) / 2 ^ B) 1 = 0 := eB.trans (congrArg (fun n : Nat => (n : Int)) hb)
      clear eA eB ha hb hm bA bB
      go_enter Try.func120, Try.ntmps120
      go_wp2_with (first | (go_at_call 165; refine (sl10Flip _ _ _ hi (by assumption) _).mono ?_; rintro e w1 ⟨b, c, rfl, hR, hw, hb⟩) | (go_at_call 166; refine (sl10Phase _ _ _ (by decide) _).mono ?_; rintro e w1 ⟨b, c, rfl, hR, hw, hb⟩))
      go_ret
      exact ⟨b, c, rfl, hR, by simp at hw; omega, by (repeat (first | with_reducible exact Below.refl _ _ | with_reducible assumption | with_reducible refine Below.setCell ?_ (by first | omega | (simp; done) | (simp; omega)) _ | with_reducible refine Below.alloc ?_ (by first | omega | (simp; done) | (simp; omega)) _ | with_reducible refine Below.drew ?_ | with_reducible refine belowDrewN ?_ _ | with_reducible refine Below.trans ?_ (Below.mono (by assumption) (by first | omega | (simp; done) | (simp; omega)))))⟩
    · have hm : mv 3 A B C i = (i, 0) := by simp [mv, ha]
      rw [goes_of (by decide) hm]
      have fA : bits .and .i64 ((i : Int) / 2 ^ A) 1 = 0 := eA.trans (congrArg (fun n : Nat => (n : Int)) ha)
      have fB : bits .and .i64 ((i : Int) / 2 ^ B) 1 = 1 := eB.trans (congrArg (fun n : Nat => (n : Int)) hb)
      clear eA eB ha hb hm bA bB
      go_enter Try.func120, Try.ntmps120
      go_wp2_with (first | (go_at_call 165; refine (sl10Flip _ _ _ hi (by assumption) _).mono ?_; rintro e w1 ⟨b, c, rfl, hR, hw, hb⟩) | (go_at_call 166; refine (sl10Phase _ _ _ (by decide) _).mono ?_; rintro e w1 ⟨b, c, rfl, hR, hw, hb⟩))
      go_ret
      exact ⟨b, c, rfl, hR, by simp at hw; omega, by (repeat (first | with_reducible exact Below.refl _ _ | with_reducible assumption | with_reducible refine Below.setCell ?_ (by first | omega | (simp; done) | (simp; omega)) _ | with_reducible refine Below.alloc ?_ (by first | omega | (simp; done) | (simp; omega)) _ | with_reducible refine Below.drew ?_ | with_reducible refine belowDrewN ?_ _ | with_reducible refine Below.trans ?_ (Below.mono (by assumption) (by first | omega | (simp; done) | (simp; omega)))))⟩
  · rcases (show bit B i = 0 ∨ bit B i = 1 by omega) with hb | hb
    · have hm : mv 3 A B C i = (i, 4) := by simp [mv, ha]
      rw [goes_of (by decide) hm]
      have fA : bits .and .i64 ((i : Int) / 2 ^ A) 1 = 1 := eA.trans (congrArg (fun n : Nat => (n : Int)) ha)
      have fB : bits .and .i64 ((i : Int) / 2 ^ B) 1 = 0 := eB.trans (congrArg (fun n : Nat => (n : Int)) hb)
      clear eA eB ha hb hm bA bB
      go_enter Try.func120, Try.ntmps120
      go_wp2_with (first | (go_at_call 165; refine (sl10Flip _ _ _ hi (by assumption) _).mono ?_; rintro e w1 ⟨b, c, rfl, hR, hw, hb⟩) | (go_at_call 166; refine (sl10Phase _ _ _ (by decide) _).mono ?_; rintro e w1 ⟨b, c, rfl, hR, hw, hb⟩))
      go_ret
      exact ⟨b, c, rfl, hR, by simp at hw; omega, by (repeat (first | with_reducible exact Below.refl _ _ | with_reducible assumption | with_reducible refine Below.setCell ?_ (by first | omega | (simp; done) | (simp; omega)) _ | with_reducible refine Below.alloc ?_ (by first | omega | (simp; done) | (simp; omega)) _ | with_reducible refine Below.drew ?_ | with_reducible refine belowDrewN ?_ _ | with_reducible refine Below.trans ?_ (Below.mono (by assumption) (by first | omega | (simp; done) | (simp; omega)))))⟩
    · have hm : mv 3 A B C i = (i, 4) := by simp [mv, ha]
      rw [goes_of (by decide) hm]
      have fA : bits .and .i64 ((i : Int) / 2 ^ A) 1 = 1 := eA.trans (congrArg (fun n : Nat => (n : Int)) ha)
      have fB : bits .and .i64 ((i : Int) / 2 ^ B) 1 = 1 := eB.trans (congrArg (fun n : Nat => (n : Int)) hb)
      clear eA eB ha hb hm bA bB
      go_enter Try.func120, Try.ntmps120
      go_wp2_with (first | (go_at_call 165; refine (sl10Flip _ _ _ hi (by assumption) _).mono ?_; rintro e w1 ⟨b, c, rfl, hR, hw, hb⟩) | (go_at_call 166; refine (sl10Phase _ _ _ (by decide) _).mono ?_; rintro e w1 ⟨b, c, rfl, hR, hw, hb⟩))
      go_ret
      exact ⟨b, c, rfl, hR, by simp at hw; omega, by (repeat (first | with_reducible exact Below.refl _ _ | with_reducible assumption | with_reducible refine Below.setCell ?_ (by first | omega | (simp; done) | (simp; omega)) _ | with_reducible refine Below.alloc ?_ (by first | omega | (simp; done) | (simp; omega)) _ | with_reducible refine Below.drew ?_ | with_reducible refine belowDrewN ?_ _ | with_reducible refine Below.trans ?_ (Below.mono (by assumption) (by first | omega | (simp; done) | (simp; omega)))))⟩
set_option maxHeartbeats 4000000 in
theorem sGoes5 (A B C i : Nat) (hA : A < 4) (hB : B < 4) (_hC : C < 4) (hi : i < 16) (w : World) :
    Calls Try.prog 120 #[Gv ⟨5, A, B, C⟩, .int .i64 i] w (OutGo w (goes ⟨5, A, B, C⟩ i)) := by
  have eA := bits_and1 i hi A hA
  have eB := bits_and1 i hi B hB
  have bA := bit_lt A i
  have bB := bit_lt B i
  rcases (show bit A i = 0 ∨ bit A i = 1 by omega) with ha | ha
  · rcases (show bit B i = 0 ∨ bit B i = 1 by omega) with hb | hb
    · have hm : mv 5 A B C i = (i, 0) := by simp [mv, ha]
      rw [goes_of (by decide) hm]
      have fA : bits .and .i64 ((i : Int) / 2 ^ A) 1 = 0 := eA.trans (congrArg (fun n : Nat => (n : Int)) ha)
      have fB : bits .and .i64 ((i : Int) / 2 ^ B) 1 = 0 := eB.trans (congrArg (fun n : Nat => (n : Int)) hb)
      clear eA eB ha hb hm bA bB
      go_enter Try.func120, Try.ntmps120
      go_wp2_with (first | (go_at_call 165; refine (sl10Flip _ _ _ hi (by assumption) _).mono ?_; rintro e w1 ⟨b, c, rfl, hR, hw, hb⟩) | (go_at_call 166; refine (sl10Phase _ _ _ (by decide) _).mono ?_; rintro e w1 ⟨b, c, rfl, hR, hw, hb⟩))
      go_ret
      exact ⟨b, c, rfl, hR, by simp at hw; omega, by (repeat (first | with_reducible exact Below.refl _ _ | with_reducible assumption | with_reducible refine Below.setCell ?_ (by first | omega | (simp; done) | (simp; omega)) _ | with_reducible refine Below.alloc ?_ (by first | omega | (simp; done) | (simp; omega)) _ | with_reducible refine Below.drew ?_ | with_reducible refine belowDrewN ?_ _ | with_reducible refine Below.trans ?_ (Below.mono (by assumption) (by first | omega | (simp; done) | (simp; omega)))))⟩
    · have hm : mv 5 A B C i = (i, 0) := by simp [mv, ha]
      rw [goes_of (by decide) hm]
      have fA : bits .and .i64 ((i : Int) / 2 ^ A) 1 = 0 := eA.trans (congrArg (fun n : Nat => (n : Int)) ha)
      have fB : bits .and .i64 ((i : Int) / 2 ^ B) 1 = 1 := eB.trans (congrArg (fun n : Nat => (n : Int)) hb)
      clear eA eB ha hb hm bA bB
      go_enter Try.func120, Try.ntmps120
      go_wp2_with (first | (go_at_call 165; refine (sl10Flip _ _ _ hi (by assumption) _).mono ?_; rintro e w1 ⟨b, c, rfl, hR, hw, hb⟩) | (go_at_call 166; refine (sl10Phase _ _ _ (by decide) _).mono ?_; rintro e w1 ⟨b, c, rfl, hR, hw, hb⟩))
      go_ret
      exact ⟨b, c, rfl, hR, by simp at hw; omega, by (repeat (first | with_reducible exact Below.refl _ _ | with_reducible assumption | with_reducible refine Below.setCell ?_ (by first | omega | (simp; done) | (simp; omega)) _ | with_reducible refine Below.alloc ?_ (by first | omega | (simp; done) | (simp; omega)) _ | with_reducible refine Below.drew ?_ | with_reducible refine belowDrewN ?_ _ | with_reducible refine Below.trans ?_ (Below.mono (by assumption) (by first | omega | (simp; done) | (simp; omega)))))⟩
  · rcases (show bit B i = 0 ∨ bit B i = 1 by omega) with hb | hb
    · have hm : mv 5 A B C i = (i, 2) := by simp [mv, ha]
      rw [goes_of (by decide) hm]
      have fA : bits .and .i64 ((i : Int) / 2 ^ A) 1 = 1 := eA.trans (congrArg (fun n : Nat => (n : Int)) ha)
      have fB : bits .and .i64 ((i : Int) / 2 ^ B) 1 = 0 := eB.trans (congrArg (fun n : Nat => (n : Int)) hb)
      clear eA eB ha hb hm bA bB
      go_enter Try.func120, Try.ntmps120
      go_wp2_with (first | (go_at_call 165; refine (sl10Flip _ _ _ hi (by assumption) _).mono ?_; rintro e w1 ⟨b, c, rfl, hR, hw, hb⟩) | (go_at_call 166; refine (sl10Phase _ _ _ (by decide) _).mono ?_; rintro e w1 ⟨b, c, rfl, hR, hw, hb⟩))
      go_ret
      exact ⟨b, c, rfl, hR, by simp at hw; omega, by (repeat (first | with_reducible exact Below.refl _ _ | with_reducible assumption | with_reducible refine Below.setCell ?_ (by first | omega | (simp; done) | (simp; omega)) _ | with_reducible refine Below.alloc ?_ (by first | omega | (simp; done) | (simp; omega)) _ | with_reducible refine Below.drew ?_ | with_reducible refine belowDrewN ?_ _ | with_reducible refine Below.trans ?_ (Below.mono (by assumption) (by first | omega | (simp; done) | (simp; omega)))))⟩
    · have hm : mv 5 A B C i = (i, 2) := by simp [mv, ha]
      rw [goes_of (by decide) hm]
      have fA : bits .and .i64 ((i : Int) / 2 ^ A) 1 = 1 := eA.trans (congrArg (fun n : Nat => (n : Int)) ha)
      have fB : bits .and .i64 ((i : Int) / 2 ^ B) 1 = 1 := eB.trans (congrArg (fun n : Nat => (n : Int)) hb)
      clear eA eB ha hb hm bA bB
      go_enter Try.func120, Try.ntmps120
      go_wp2_with (first | (go_at_call 165; refine (sl10Flip _ _ _ hi (by assumption) _).mono ?_; rintro e w1 ⟨b, c, rfl, hR, hw, hb⟩) | (go_at_call 166; refine (sl10Phase _ _ _ (by decide) _).mono ?_; rintro e w1 ⟨b, c, rfl, hR, hw, hb⟩))
      go_ret
      exact ⟨b, c, rfl, hR, by simp at hw; omega, by (repeat (first | with_reducible exact Below.refl _ _ | with_reducible assumption | with_reducible refine Below.setCell ?_ (by first | omega | (simp; done) | (simp; omega)) _ | with_reducible refine Below.alloc ?_ (by first | omega | (simp; done) | (simp; omega)) _ | with_reducible refine Below.drew ?_ | with_reducible refine belowDrewN ?_ _ | with_reducible refine Below.trans ?_ (Below.mono (by assumption) (by first | omega | (simp; done) | (simp; omega)))))⟩
set_option maxHeartbeats 4000000 in
theorem sGoes6 (A B C i : Nat) (hA : A < 4) (hB : B < 4) (_hC : C < 4) (hi : i < 16) (w : World) :
    Calls Try.prog 120 #[Gv ⟨6, A, B, C⟩, .int .i64 i] w (OutGo w (goes ⟨6, A, B, C⟩ i)) := by
  have eA := bits_and1 i hi A hA
  have eB := bits_and1 i hi B hB
  have bA := bit_lt A i
  have bB := bit_lt B i
  rcases (show bit A i = 0 ∨ bit A i = 1 by omega) with ha | ha
  · rcases (show bit B i = 0 ∨ bit B i = 1 by omega) with hb | hb
    · have hm : mv 6 A B C i = (i, 0) := by simp [mv, ha]
      rw [goes_of (by decide) hm]
      have fA : bits .and .i64 ((i : Int) / 2 ^ A) 1 = 0 := eA.trans (congrArg (fun n : Nat => (n : Int)) ha)
      have fB : bits .and .i64 ((i : Int) / 2 ^ B) 1 = 0 := eB.trans (congrArg (fun n : Nat => (n : Int)) hb)
      clear eA eB ha hb hm bA bB
      go_enter Try.func120, Try.ntmps120
      go_wp2_with (first | (go_at_call 165; refine (sl10Flip _ _ _ hi (by assumption) _).mono ?_; rintro e w1 ⟨b, c, rfl, hR, hw, hb⟩) | (go_at_call 166; refine (sl10Phase _ _ _ (by decide) _).mono ?_; rintro e w1 ⟨b, c, rfl, hR, hw, hb⟩))
      go_ret
      exact ⟨b, c, rfl, hR, by simp at hw; omega, by (repeat (first | with_reducible exact Below.refl _ _ | with_reducible assumption | with_reducible refine Below.setCell ?_ (by first | omega | (simp; done) | (simp; omega)) _ | with_reducible refine Below.alloc ?_ (by first | omega | (simp; done) | (simp; omega)) _ | with_reducible refine Below.drew ?_ | with_reducible refine belowDrewN ?_ _ | with_reducible refine Below.trans ?_ (Below.mono (by assumption) (by first | omega | (simp; done) | (simp; omega)))))⟩
    · have hm : mv 6 A B C i = (i, 0) := by simp [mv, ha]
      rw [goes_of (by decide) hm]
      have fA : bits .and .i64 ((i : Int) / 2 ^ A) 1 = 0 := eA.trans (congrArg (fun n : Nat => (n : Int)) ha)
      have fB : bits .and .i64 ((i : Int) / 2 ^ B) 1 = 1 := eB.trans (congrArg (fun n : Nat => (n : Int)) hb)
      clear eA eB ha hb hm bA bB
      go_enter Try.func120, Try.ntmps120
      go_wp2_with (first | (go_at_call 165; refine (sl10Flip _ _ _ hi (by assumption) _).mono ?_; rintro e w1 ⟨b, c, rfl, hR, hw, hb⟩) | (go_at_call 166; refine (sl10Phase _ _ _ (by decide) _).mono ?_; rintro e w1 ⟨b, c, rfl, hR, hw, hb⟩))
      go_ret
      exact ⟨b, c, rfl, hR, by simp at hw; omega, by (repeat (first | with_reducible exact Below.refl _ _ | with_reducible assumption | with_reducible refine Below.setCell ?_ (by first | omega | (simp; done) | (simp; omega)) _ | with_reducible refine Below.alloc ?_ (by first | omega | (simp; done) | (simp; omega)) _ | with_reducible refine Below.drew ?_ | with_reducible refine belowDrewN ?_ _ | with_reducible refine Below.trans ?_ (Below.mono (by assumption) (by first | omega | (simp; done) | (simp; omega)))))⟩
  · rcases (show bit B i = 0 ∨ bit B i = 1 by omega) with hb | hb
    · have hm : mv 6 A B C i = (i, 6) := by simp [mv, ha]
      rw [goes_of (by decide) hm]
      have fA : bits .and .i64 ((i : Int) / 2 ^ A) 1 = 1 := eA.trans (congrArg (fun n : Nat => (n : Int)) ha)
      have fB : bits .and .i64 ((i : Int) / 2 ^ B) 1 = 0 := eB.trans (congrArg (fun n : Nat => (n : Int)) hb)
      clear eA eB ha hb hm bA bB
      go_enter Try.func120, Try.ntmps120
      go_wp2_with (first | (go_at_call 165; refine (sl10Flip _ _ _ hi (by assumption) _).mono ?_; rintro e w1 ⟨b, c, rfl, hR, hw, hb⟩) | (go_at_call 166; refine (sl10Phase _ _ _ (by decide) _).mono ?_; rintro e w1 ⟨b, c, rfl, hR, hw, hb⟩))
      go_ret
      exact ⟨b, c, rfl, hR, by simp at hw; omega, by (repeat (first | with_reducible exact Below.refl _ _ | with_reducible assumption | with_reducible refine Below.setCell ?_ (by first | omega | (simp; done) | (simp; omega)) _ | with_reducible refine Below.alloc ?_ (by first | omega | (simp; done) | (simp; omega)) _ | with_reducible refine Below.drew ?_ | with_reducible refine belowDrewN ?_ _ | with_reducible refine Below.trans ?_ (Below.mono (by assumption) (by first | omega | (simp; done) | (simp; omega)))))⟩
    · have hm : mv 6 A B C i = (i, 6) := by simp [mv, ha]
      rw [goes_of (by decide) hm]
      have fA : bits .and .i64 ((i : Int) / 2 ^ A) 1 = 1 := eA.trans (congrArg (fun n : Nat => (n : Int)) ha)
      have fB : bits .and .i64 ((i : Int) / 2 ^ B) 1 = 1 := eB.trans (congrArg (fun n : Nat => (n : Int)) hb)
      clear eA eB ha hb hm bA bB
      go_enter Try.func120, Try.ntmps120
      go_wp2_with (first | (go_at_call 165; refine (sl10Flip _ _ _ hi (by assumption) _).mono ?_; rintro e w1 ⟨b, c, rfl, hR, hw, hb⟩) | (go_at_call 166; refine (sl10Phase _ _ _ (by decide) _).mono ?_; rintro e w1 ⟨b, c, rfl, hR, hw, hb⟩))
      go_ret
      exact ⟨b, c, rfl, hR, by simp at hw; omega, by (repeat (first | with_reducible exact Below.refl _ _ | with_reducible assumption | with_reducible refine Below.setCell ?_ (by first | omega | (simp; done) | (simp; omega)) _ | with_reducible refine Below.alloc ?_ (by first | omega | (simp; done) | (simp; omega)) _ | with_reducible refine Below.drew ?_ | with_reducible refine belowDrewN ?_ _ | with_reducible refine Below.trans ?_ (Below.mono (by assumption) (by first | omega | (simp; done) | (simp; omega)))))⟩
set_option maxHeartbeats 4000000 in
theorem sGoes7 (A B C i : Nat) (hA : A < 4) (hB : B < 4) (_hC : C < 4) (hi : i < 16) (w : World) :
    Calls Try.prog 120 #[Gv ⟨7, A, B, C⟩, .int .i64 i] w (OutGo w (goes ⟨7, A, B, C⟩ i)) := by
  have eA := bits_and1 i hi A hA
  have eB := bits_and1 i hi B hB
  have bA := bit_lt A i
  have bB := bit_lt B i
  rcases (show bit A i = 0 ∨ bit A i = 1 by omega) with ha | ha
  · rcases (show bit B i = 0 ∨ bit B i = 1 by omega) with hb | hb
    · have hm : mv 7 A B C i = (i, 0) := by simp [mv, ha]
      rw [goes_of (by decide) hm]
      have fA : bits .and .i64 ((i : Int) / 2 ^ A) 1 = 0 := eA.trans (congrArg (fun n : Nat => (n : Int)) ha)
      have fB : bits .and .i64 ((i : Int) / 2 ^ B) 1 = 0 := eB.trans (congrArg (fun n : Nat => (n : Int)) hb)
      clear eA eB ha hb hm bA bB
      go_enter Try.func120, Try.ntmps120
      go_wp2_with (first | (go_at_call 165; refine (sl10Flip _ _ _ hi (by assumption) _).mono ?_; rintro e w1 ⟨b, c, rfl, hR, hw, hb⟩) | (go_at_call 166; refine (sl10Phase _ _ _ (by decide) _).mono ?_; rintro e w1 ⟨b, c, rfl, hR, hw, hb⟩))
      go_ret
      exact ⟨b, c, rfl, hR, by simp at hw; omega, by (repeat (first | with_reducible exact Below.refl _ _ | with_reducible assumption | with_reducible refine Below.setCell ?_ (by first | omega | (simp; done) | (simp; omega)) _ | with_reducible refine Below.alloc ?_ (by first | omega | (simp; done) | (simp; omega)) _ | with_reducible refine Below.drew ?_ | with_reducible refine belowDrewN ?_ _ | with_reducible refine Below.trans ?_ (Below.mono (by assumption) (by first | omega | (simp; done) | (simp; omega)))))⟩
    · have hm : mv 7 A B C i = (i, 0) := by simp [mv, ha]
      rw [goes_of (by decide) hm]
      have fA : bits .and .i64 ((i : Int) / 2 ^ A) 1 = 0 := eA.trans (congrArg (fun n : Nat => (n : Int)) ha)
      have fB : bits .and .i64 ((i : Int) / 2 ^ B) 1 = 1 := eB.trans (congrArg (fun n : Nat => (n : Int)) hb)
      clear eA eB ha hb hm bA bB
      go_enter Try.func120, Try.ntmps120
      go_wp2_with (first | (go_at_call 165; refine (sl10Flip _ _ _ hi (by assumption) _).mono ?_; rintro e w1 ⟨b, c, rfl, hR, hw, hb⟩) | (go_at_call 166; refine (sl10Phase _ _ _ (by decide) _).mono ?_; rintro e w1 ⟨b, c, rfl, hR, hw, hb⟩))
      go_ret
      exact ⟨b, c, rfl, hR, by simp at hw; omega, by (repeat (first | with_reducible exact Below.refl _ _ | with_reducible assumption | with_reducible refine Below.setCell ?_ (by first | omega | (simp; done) | (simp; omega)) _ | with_reducible refine Below.alloc ?_ (by first | omega | (simp; done) | (simp; omega)) _ | with_reducible refine Below.drew ?_ | with_reducible refine belowDrewN ?_ _ | with_reducible refine Below.trans ?_ (Below.mono (by assumption) (by first | omega | (simp; done) | (simp; omega)))))⟩
  · rcases (show bit B i = 0 ∨ bit B i = 1 by omega) with hb | hb
    · have hm : mv 7 A B C i = (i, 1) := by simp [mv, ha]
      rw [goes_of (by decide) hm]
      have fA : bits .and .i64 ((i : Int) / 2 ^ A) 1 = 1 := eA.trans (congrArg (fun n : Nat => (n : Int)) ha)
      have fB : bits .and .i64 ((i : Int) / 2 ^ B) 1 = 0 := eB.trans (congrArg (fun n : Nat => (n : Int)) hb)
      clear eA eB ha hb hm bA bB
      go_enter Try.func120, Try.ntmps120
      go_wp2_with (first | (go_at_call 165; refine (sl10Flip _ _ _ hi (by assumption) _).mono ?_; rintro e w1 ⟨b, c, rfl, hR, hw, hb⟩) | (go_at_call 166; refine (sl10Phase _ _ _ (by decide) _).mono ?_; rintro e w1 ⟨b, c, rfl, hR, hw, hb⟩))
      go_ret
      exact ⟨b, c, rfl, hR, by simp at hw; omega, by (repeat (first | with_reducible exact Below.refl _ _ | with_reducible assumption | with_reducible refine Below.setCell ?_ (by first | omega | (simp; done) | (simp; omega)) _ | with_reducible refine Below.alloc ?_ (by first | omega | (simp; done) | (simp; omega)) _ | with_reducible refine Below.drew ?_ | with_reducible refine belowDrewN ?_ _ | with_reducible refine Below.trans ?_ (Below.mono (by assumption) (by first | omega | (simp; done) | (simp; omega)))))⟩
    · have hm : mv 7 A B C i = (i, 1) := by simp [mv, ha]
      rw [goes_of (by decide) hm]
      have fA : bits .and .i64 ((i : Int) / 2 ^ A) 1 = 1 := eA.trans (congrArg (fun n : Nat => (n : Int)) ha)
      have fB : bits .and .i64 ((i : Int) / 2 ^ B) 1 = 1 := eB.trans (congrArg (fun n : Nat => (n : Int)) hb)
      clear eA eB ha hb hm bA bB
      go_enter Try.func120, Try.ntmps120
      go_wp2_with (first | (go_at_call 165; refine (sl10Flip _ _ _ hi (by assumption) _).mono ?_; rintro e w1 ⟨b, c, rfl, hR, hw, hb⟩) | (go_at_call 166; refine (sl10Phase _ _ _ (by decide) _).mono ?_; rintro e w1 ⟨b, c, rfl, hR, hw, hb⟩))
      go_ret
      exact ⟨b, c, rfl, hR, by simp at hw; omega, by (repeat (first | with_reducible exact Below.refl _ _ | with_reducible assumption | with_reducible refine Below.setCell ?_ (by first | omega | (simp; done) | (simp; omega)) _ | with_reducible refine Below.alloc ?_ (by first | omega | (simp; done) | (simp; omega)) _ | with_reducible refine Below.drew ?_ | with_reducible refine belowDrewN ?_ _ | with_reducible refine Below.trans ?_ (Below.mono (by assumption) (by first | omega | (simp; done) | (simp; omega)))))⟩
set_option maxHeartbeats 4000000 in
theorem sGoes8 (A B C i : Nat) (hA : A < 4) (hB : B < 4) (_hC : C < 4) (hi : i < 16) (w : World) :
    Calls Try.prog 120 #[Gv ⟨8, A, B, C⟩, .int .i64 i] w (OutGo w (goes ⟨8, A, B, C⟩ i)) := by
  have eA := bits_and1 i hi A hA
  have eB := bits_and1 i hi B hB
  have bA := bit_lt A i
  have bB := bit_lt B i
  rcases (show bit A i = 0 ∨ bit A i = 1 by omega) with ha | ha
  · rcases (show bit B i = 0 ∨ bit B i = 1 by omega) with hb | hb
    · have hm : mv 8 A B C i = (i, 0) := by simp [mv, ha]
      rw [goes_of (by decide) hm]
      have fA : bits .and .i64 ((i : Int) / 2 ^ A) 1 = 0 := eA.trans (congrArg (fun n : Nat => (n : Int)) ha)
      have fB : bits .and .i64 ((i : Int) / 2 ^ B) 1 = 0 := eB.trans (congrArg (fun n : Nat => (n : Int)) hb)
      clear eA eB ha hb hm bA bB
      go_enter Try.func120, Try.ntmps120
      go_wp2_with (first | (go_at_call 165; refine (sl10Flip _ _ _ hi (by assumption) _).mono ?_; rintro e w1 ⟨b, c, rfl, hR, hw, hb⟩) | (go_at_call 166; refine (sl10Phase _ _ _ (by decide) _).mono ?_; rintro e w1 ⟨b, c, rfl, hR, hw, hb⟩))
      go_ret
      exact ⟨b, c, rfl, hR, by simp at hw; omega, by (repeat (first | with_reducible exact Below.refl _ _ | with_reducible assumption | with_reducible refine Below.setCell ?_ (by first | omega | (simp; done) | (simp; omega)) _ | with_reducible refine Below.alloc ?_ (by first | omega | (simp; done) | (simp; omega)) _ | with_reducible refine Below.drew ?_ | with_reducible refine belowDrewN ?_ _ | with_reducible refine Below.trans ?_ (Below.mono (by assumption) (by first | omega | (simp; done) | (simp; omega)))))⟩
    · have hm : mv 8 A B C i = (i, 0) := by simp [mv, ha]
      rw [goes_of (by decide) hm]
      have fA : bits .and .i64 ((i : Int) / 2 ^ A) 1 = 0 := eA.trans (congrArg (fun n : Nat => (n : Int)) ha)
      have fB : bits .and .i64 ((i : Int) / 2 ^ B) 1 = 1 := eB.trans (congrArg (fun n : Nat => (n : Int)) hb)
      clear eA eB ha hb hm bA bB
      go_enter Try.func120, Try.ntmps120
      go_wp2_with (first | (go_at_call 165; refine (sl10Flip _ _ _ hi (by assumption) _).mono ?_; rintro e w1 ⟨b, c, rfl, hR, hw, hb⟩) | (go_at_call 166; refine (sl10Phase _ _ _ (by decide) _).mono ?_; rintro e w1 ⟨b, c, rfl, hR, hw, hb⟩))
      go_ret
      exact ⟨b, c, rfl, hR, by simp at hw; omega, by (repeat (first | with_reducible exact Below.refl _ _ | with_reducible assumption | with_reducible refine Below.setCell ?_ (by first | omega | (simp; done) | (simp; omega)) _ | with_reducible refine Below.alloc ?_ (by first | omega | (simp; done) | (simp; omega)) _ | with_reducible refine Below.drew ?_ | with_reducible refine belowDrewN ?_ _ | with_reducible refine Below.trans ?_ (Below.mono (by assumption) (by first | omega | (simp; done) | (simp; omega)))))⟩
  · rcases (show bit B i = 0 ∨ bit B i = 1 by omega) with hb | hb
    · have hm : mv 8 A B C i = (i, 7) := by simp [mv, ha]
      rw [goes_of (by decide) hm]
      have fA : bits .and .i64 ((i : Int) / 2 ^ A) 1 = 1 := eA.trans (congrArg (fun n : Nat => (n : Int)) ha)
      have fB : bits .and .i64 ((i : Int) / 2 ^ B) 1 = 0 := eB.trans (congrArg (fun n : Nat => (n : Int)) hb)
      clear eA eB ha hb hm bA bB
      go_enter Try.func120, Try.ntmps120
      go_wp2_with (first | (go_at_call 165; refine (sl10Flip _ _ _ hi (by assumption) _).mono ?_; rintro e w1 ⟨b, c, rfl, hR, hw, hb⟩) | (go_at_call 166; refine (sl10Phase _ _ _ (by decide) _).mono ?_; rintro e w1 ⟨b, c, rfl, hR, hw, hb⟩))
      go_ret
      exact ⟨b, c, rfl, hR, by simp at hw; omega, by (repeat (first | with_reducible exact Below.refl _ _ | with_reducible assumption | with_reducible refine Below.setCell ?_ (by first | omega | (simp; done) | (simp; omega)) _ | with_reducible refine Below.alloc ?_ (by first | omega | (simp; done) | (simp; omega)) _ | with_reducible refine Below.drew ?_ | with_reducible refine belowDrewN ?_ _ | with_reducible refine Below.trans ?_ (Below.mono (by assumption) (by first | omega | (simp; done) | (simp; omega)))))⟩
    · have hm : mv 8 A B C i = (i, 7) := by simp [mv, ha]
      rw [goes_of (by decide) hm]
      have fA : bits .and .i64 ((i : Int) / 2 ^ A) 1 = 1 := eA.trans (congrArg (fun n : Nat => (n : Int)) ha)
      have fB : bits .and .i64 ((i : Int) / 2 ^ B) 1 = 1 := eB.trans (congrArg (fun n : Nat => (n : Int)) hb)
      clear eA eB ha hb hm bA bB
      go_enter Try.func120, Try.ntmps120
      go_wp2_with (first | (go_at_call 165; refine (sl10Flip _ _ _ hi (by assumption) _).mono ?_; rintro e w1 ⟨b, c, rfl, hR, hw, hb⟩) | (go_at_call 166; refine (sl10Phase _ _ _ (by decide) _).mono ?_; rintro e w1 ⟨b, c, rfl, hR, hw, hb⟩))
      go_ret
      exact ⟨b, c, rfl, hR, by simp at hw; omega, by (repeat (first | with_reducible exact Below.refl _ _ | with_reducible assumption | with_reducible refine Below.setCell ?_ (by first | omega | (simp; done) | (simp; omega)) _ | with_reducible refine Below.alloc ?_ (by first | omega | (simp; done) | (simp; omega)) _ | with_reducible refine Below.drew ?_ | with_reducible refine belowDrewN ?_ _ | with_reducible refine Below.trans ?_ (Below.mono (by assumption) (by first | omega | (simp; done) | (simp; omega)))))⟩
set_option maxHeartbeats 4000000 in
theorem sGoes9 (A B C i : Nat) (hA : A < 4) (hB : B < 4) (_hC : C < 4) (hi : i < 16) (w : World) :
    Calls Try.prog 120 #[Gv ⟨9, A, B, C⟩, .int .i64 i] w (OutGo w (goes ⟨9, A, B, C⟩ i)) := by
  have eA := bits_and1 i hi A hA
  have eB := bits_and1 i hi B hB
  have bA := bit_lt A i
  have bB := bit_lt B i
  rcases (show bit A i = 0 ∨ bit A i = 1 by omega) with ha | ha
  · rcases (show bit B i = 0 ∨ bit B i = 1 by omega) with hb | hb
    · have hm : mv 9 A B C i = (i, 0) := by simp [mv, ha]
      rw [goes_of (by decide) hm]
      have fA : bits .and .i64 ((i : Int) / 2 ^ A) 1 = 0 := eA.trans (congrArg (fun n : Nat => (n : Int)) ha)
      have fB : bits .and .i64 ((i : Int) / 2 ^ B) 1 = 0 := eB.trans (congrArg (fun n : Nat => (n : Int)) hb)
      clear eA eB ha hb hm bA bB
      go_enter Try.func120, Try.ntmps120
      go_wp2_with (first | (go_at_call 165; refine (sl10Flip _ _ _ hi (by assumption) _).mono ?_; rintro e w1 ⟨b, c, rfl, hR, hw, hb⟩) | (go_at_call 166; refine (sl10Phase _ _ _ (by decide) _).mono ?_; rintro e w1 ⟨b, c, rfl, hR, hw, hb⟩))
      go_ret
      exact ⟨b, c, rfl, hR, by simp at hw; omega, by (repeat (first | with_reducible exact Below.refl _ _ | with_reducible assumption | with_reducible refine Below.setCell ?_ (by first | omega | (simp; done) | (simp; omega)) _ | with_reducible refine Below.alloc ?_ (by first | omega | (simp; done) | (simp; omega)) _ | with_reducible refine Below.drew ?_ | with_reducible refine belowDrewN ?_ _ | with_reducible refine Below.trans ?_ (Below.mono (by assumption) (by first | omega | (simp; done) | (simp; omega)))))⟩
    · have hm : mv 9 A B C i = (i, 0) := by simp [mv, ha]
      rw [goes_of (by decide) hm]
      have fA : bits .and .i64 ((i : Int) / 2 ^ A) 1 = 0 := eA.trans (congrArg (fun n : Nat => (n : Int)) ha)
      have fB : bits .and .i64 ((i : Int) / 2 ^ B) 1 = 1 := eB.trans (congrArg (fun n : Nat => (n : Int)) hb)
      clear eA eB ha hb hm bA bB
      go_enter Try.func120, Try.ntmps120
      go_wp2_with (first | (go_at_call 165; refine (sl10Flip _ _ _ hi (by assumption) _).mono ?_; rintro e w1 ⟨b, c, rfl, hR, hw, hb⟩) | (go_at_call 166; refine (sl10Phase _ _ _ (by decide) _).mono ?_; rintro e w1 ⟨b, c, rfl, hR, hw, hb⟩))
      go_ret
      exact ⟨b, c, rfl, hR, by simp at hw; omega, by (repeat (first | with_reducible exact Below.refl _ _ | with_reducible assumption | with_reducible refine Below.setCell ?_ (by first | omega | (simp; done) | (simp; omega)) _ | with_reducible refine Below.alloc ?_ (by first | omega | (simp; done) | (simp; omega)) _ | with_reducible refine Below.drew ?_ | with_reducible refine belowDrewN ?_ _ | with_reducible refine Below.trans ?_ (Below.mono (by assumption) (by first | omega | (simp; done) | (simp; omega)))))⟩
  · rcases (show bit B i = 0 ∨ bit B i = 1 by omega) with hb | hb
    · have hm : mv 9 A B C i = (i ^^^ 2 ^ B, 0) := by simp [mv, ha]
      rw [goes_of (by decide) hm]
      have fA : bits .and .i64 ((i : Int) / 2 ^ A) 1 = 1 := eA.trans (congrArg (fun n : Nat => (n : Int)) ha)
      have fB : bits .and .i64 ((i : Int) / 2 ^ B) 1 = 0 := eB.trans (congrArg (fun n : Nat => (n : Int)) hb)
      clear eA eB ha hb hm bA bB
      go_enter Try.func120, Try.ntmps120
      go_wp2_with (first | (go_at_call 165; refine (sl10Flip _ _ _ hi (by assumption) _).mono ?_; rintro e w1 ⟨b, c, rfl, hR, hw, hb⟩) | (go_at_call 166; refine (sl10Phase _ _ _ (by decide) _).mono ?_; rintro e w1 ⟨b, c, rfl, hR, hw, hb⟩))
      go_ret
      exact ⟨b, c, rfl, hR, by simp at hw; omega, by (repeat (first | with_reducible exact Below.refl _ _ | with_reducible assumption | with_reducible refine Below.setCell ?_ (by first | omega | (simp; done) | (simp; omega)) _ | with_reducible refine Below.alloc ?_ (by first | omega | (simp; done) | (simp; omega)) _ | with_reducible refine Below.drew ?_ | with_reducible refine belowDrewN ?_ _ | with_reducible refine Below.trans ?_ (Below.mono (by assumption) (by first | omega | (simp; done) | (simp; omega)))))⟩
    · have hm : mv 9 A B C i = (i ^^^ 2 ^ B, 0) := by simp [mv, ha]
      rw [goes_of (by decide) hm]
      have fA : bits .and .i64 ((i : Int) / 2 ^ A) 1 = 1 := eA.trans (congrArg (fun n : Nat => (n : Int)) ha)
      have fB : bits .and .i64 ((i : Int) / 2 ^ B) 1 = 1 := eB.trans (congrArg (fun n : Nat => (n : Int)) hb)
      clear eA eB ha hb hm bA bB
      go_enter Try.func120, Try.ntmps120
      go_wp2_with (first | (go_at_call 165; refine (sl10Flip _ _ _ hi (by assumption) _).mono ?_; rintro e w1 ⟨b, c, rfl, hR, hw, hb⟩) | (go_at_call 166; refine (sl10Phase _ _ _ (by decide) _).mono ?_; rintro e w1 ⟨b, c, rfl, hR, hw, hb⟩))
      go_ret
      exact ⟨b, c, rfl, hR, by simp at hw; omega, by (repeat (first | with_reducible exact Below.refl _ _ | with_reducible assumption | with_reducible refine Below.setCell ?_ (by first | omega | (simp; done) | (simp; omega)) _ | with_reducible refine Below.alloc ?_ (by first | omega | (simp; done) | (simp; omega)) _ | with_reducible refine Below.drew ?_ | with_reducible refine belowDrewN ?_ _ | with_reducible refine Below.trans ?_ (Below.mono (by assumption) (by first | omega | (simp; done) | (simp; omega)))))⟩
set_option maxHeartbeats 4000000 in
theorem sGoes10 (A B C i : Nat) (hA : A < 4) (hB : B < 4) (_hC : C < 4) (hi : i < 16) (w : World) :
    Calls Try.prog 120 #[Gv ⟨10, A, B, C⟩, .int .i64 i] w (OutGo w (goes ⟨10, A, B, C⟩ i)) := by
  have eA := bits_and1 i hi A hA
  have eB := bits_and1 i hi B hB
  have bA := bit_lt A i
  have bB := bit_lt B i
  rcases (show bit A i = 0 ∨ bit A i = 1 by omega) with ha | ha
  · rcases (show bit B i = 0 ∨ bit B i = 1 by omega) with hb | hb
    · have hm : mv 10 A B C i = (i, 0) := by simp [mv, ha]
      rw [goes_of (by decide) hm]
      have fA : bits .and .i64 ((i : Int) / 2 ^ A) 1 = 0 := eA.trans (congrArg (fun n : Nat => (n : Int)) ha)
      have fB : bits .and .i64 ((i : Int) / 2 ^ B) 1 = 0 := eB.trans (congrArg (fun n : Nat => (n : Int)) hb)
      clear eA eB ha hb hm bA bB
      go_enter Try.func120, Try.ntmps120
      go_wp2_with (first | (go_at_call 165; refine (sl10Flip _ _ _ hi (by assumption) _).mono ?_; rintro e w1 ⟨b, c, rfl, hR, hw, hb⟩) | (go_at_call 166; refine (sl10Phase _ _ _ (by decide) _).mono ?_; rintro e w1 ⟨b, c, rfl, hR, hw, hb⟩))
      go_ret
      exact ⟨b, c, rfl, hR, by simp at hw; omega, by (repeat (first | with_reducible exact Below.refl _ _ | with_reducible assumption | with_reducible refine Below.setCell ?_ (by first | omega | (simp; done) | (simp; omega)) _ | with_reducible refine Below.alloc ?_ (by first | omega | (simp; done) | (simp; omega)) _ | with_reducible refine Below.drew ?_ | with_reducible refine belowDrewN ?_ _ | with_reducible refine Below.trans ?_ (Below.mono (by assumption) (by first | omega | (simp; done) | (simp; omega)))))⟩
    · have hm : mv 10 A B C i = (i, 0) := by simp [mv, ha]
      rw [goes_of (by decide) hm]
      have fA : bits .and .i64 ((i : Int) / 2 ^ A) 1 = 0 := eA.trans (congrArg (fun n : Nat => (n : Int)) ha)
      have fB : bits .and .i64 ((i : Int) / 2 ^ B) 1 = 1 := eB.trans (congrArg (fun n : Nat => (n : Int)) hb)
      clear eA eB ha hb hm bA bB
      go_enter Try.func120, Try.ntmps120
      go_wp2_with (first | (go_at_call 165; refine (sl10Flip _ _ _ hi (by assumption) _).mono ?_; rintro e w1 ⟨b, c, rfl, hR, hw, hb⟩) | (go_at_call 166; refine (sl10Phase _ _ _ (by decide) _).mono ?_; rintro e w1 ⟨b, c, rfl, hR, hw, hb⟩))
      go_ret
      exact ⟨b, c, rfl, hR, by simp at hw; omega, by (repeat (first | with_reducible exact Below.refl _ _ | with_reducible assumption | with_reducible refine Below.setCell ?_ (by first | omega | (simp; done) | (simp; omega)) _ | with_reducible refine Below.alloc ?_ (by first | omega | (simp; done) | (simp; omega)) _ | with_reducible refine Below.drew ?_ | with_reducible refine belowDrewN ?_ _ | with_reducible refine Below.trans ?_ (Below.mono (by assumption) (by first | omega | (simp; done) | (simp; omega)))))⟩
  · rcases (show bit B i = 0 ∨ bit B i = 1 by omega) with hb | hb
    · have hm : mv 10 A B C i = (i, 0) := by simp [mv, ha, hb]
      rw [goes_of (by decide) hm]
      have fA : bits .and .i64 ((i : Int) / 2 ^ A) 1 = 1 := eA.trans (congrArg (fun n : Nat => (n : Int)) ha)
      have fB : bits .and .i64 ((i : Int) / 2 ^ B) 1 = 0 := eB.trans (congrArg (fun n : Nat => (n : Int)) hb)
      clear eA eB ha hb hm bA bB
      go_enter Try.func120, Try.ntmps120
      go_wp2_with (first | (go_at_call 165; refine (sl10Flip _ _ _ hi (by assumption) _).mono ?_; rintro e w1 ⟨b, c, rfl, hR, hw, hb⟩) | (go_at_call 166; refine (sl10Phase _ _ _ (by decide) _).mono ?_; rintro e w1 ⟨b, c, rfl, hR, hw, hb⟩))
      go_ret
      exact ⟨b, c, rfl, hR, by simp at hw; omega, by (repeat (first | with_reducible exact Below.refl _ _ | with_reducible assumption | with_reducible refine Below.setCell ?_ (by first | omega | (simp; done) | (simp; omega)) _ | with_reducible refine Below.alloc ?_ (by first | omega | (simp; done) | (simp; omega)) _ | with_reducible refine Below.drew ?_ | with_reducible refine belowDrewN ?_ _ | with_reducible refine Below.trans ?_ (Below.mono (by assumption) (by first | omega | (simp; done) | (simp; omega)))))⟩
    · have hm : mv 10 A B C i = (i, 4) := by simp [mv, ha, hb]
      rw [goes_of (by decide) hm]
      have fA : bits .and .i64 ((i : Int) / 2 ^ A) 1 = 1 := eA.trans (congrArg (fun n : Nat => (n : Int)) ha)
      have fB : bits .and .i64 ((i : Int) / 2 ^ B) 1 = 1 := eB.trans (congrArg (fun n : Nat => (n : Int)) hb)
      clear eA eB ha hb hm bA bB
      go_enter Try.func120, Try.ntmps120
      go_wp2_with (first | (go_at_call 165; refine (sl10Flip _ _ _ hi (by assumption) _).mono ?_; rintro e w1 ⟨b, c, rfl, hR, hw, hb⟩) | (go_at_call 166; refine (sl10Phase _ _ _ (by decide) _).mono ?_; rintro e w1 ⟨b, c, rfl, hR, hw, hb⟩))
      go_ret
      exact ⟨b, c, rfl, hR, by simp at hw; omega, by (repeat (first | with_reducible exact Below.refl _ _ | with_reducible assumption | with_reducible refine Below.setCell ?_ (by first | omega | (simp; done) | (simp; omega)) _ | with_reducible refine Below.alloc ?_ (by first | omega | (simp; done) | (simp; omega)) _ | with_reducible refine Below.drew ?_ | with_reducible refine belowDrewN ?_ _ | with_reducible refine Below.trans ?_ (Below.mono (by assumption) (by first | omega | (simp; done) | (simp; omega)))))⟩
set_option maxHeartbeats 4000000 in
theorem sGoes11 (A B C i : Nat) (hA : A < 4) (hB : B < 4) (_hC : C < 4) (hi : i < 16) (w : World) :
    Calls Try.prog 120 #[Gv ⟨11, A, B, C⟩, .int .i64 i] w (OutGo w (goes ⟨11, A, B, C⟩ i)) := by
  have eA := bits_and1 i hi A hA
  have eB := bits_and1 i hi B hB
  have bA := bit_lt A i
  have bB := bit_lt B i
  have xA := xor_shl i hi A hA
  have hy := xor_lt16 i hi (2 ^ A) (pow_lt16 hA)
  have xB := xor_shl (i ^^^ 2 ^ A) hy B hB
  rcases (show bit A i = 0 ∨ bit A i = 1 by omega) with ha | ha
  · rcases (show bit B i = 0 ∨ bit B i = 1 by omega) with hb | hb
    · have hm : mv 11 A B C i = (i, 0) := by simp [mv, ha, hb]
      rw [goes_of (by decide) hm]
      have fA : bits .and .i64 ((i : Int) / 2 ^ A) 1 = 0 := eA.trans (congrArg (fun n : Nat => (n : Int)) ha)
      have fB : bits .and .i64 ((i : Int) / 2 ^ B) 1 = 0 := eB.trans (congrArg (fun n : Nat => (n : Int)) hb)
      clear eA eB ha hb hm bA bB
      go_enter Try.func120, Try.ntmps120
      go_wp2_with (go_at_call 136; refine (sPhase 0 (by decide) _).mono ?_; rintro e w1 ⟨rfl, hb⟩; obtain ⟨hc, hf, hz⟩ := bcell hb; (try simp only [World.size_drew, World.cell?_drew, World.frozen?_drew] at hc hf hz); (try simp at hz); (try have kk := fun o => hc (w.heap.size) o (by first | omega | (simp; done) | (simp; omega))); (try have kf := fun o => hf (w.heap.size) o (by first | omega | (simp; done) | (simp; omega))); (try have zz : w.heap.size < w1.heap.size := by omega))
      go_ret
      exact ⟨_, _, rfl, GoR.one (t := 128) (Blk.new' _ _ rfl), by first | omega | (simp; done) | (simp; omega), by (repeat (first | with_reducible exact Below.refl _ _ | with_reducible assumption | with_reducible refine Below.setCell ?_ (by first | omega | (simp; done) | (simp; omega)) _ | with_reducible refine Below.alloc ?_ (by first | omega | (simp; done) | (simp; omega)) _ | with_reducible refine Below.drew ?_ | with_reducible refine belowDrewN ?_ _ | with_reducible refine Below.trans ?_ (Below.mono (by assumption) (by first | omega | (simp; done) | (simp; omega)))))⟩
    · have hm : mv 11 A B C i = (i ^^^ 2 ^ A ^^^ 2 ^ B, 0) := by simp [mv, ha, hb]
      rw [goes_of (by decide) hm]
      have fA : bits .and .i64 ((i : Int) / 2 ^ A) 1 = 0 := eA.trans (congrArg (fun n : Nat => (n : Int)) ha)
      have fB : bits .and .i64 ((i : Int) / 2 ^ B) 1 = 1 := eB.trans (congrArg (fun n : Nat => (n : Int)) hb)
      clear eA eB ha hb hm bA bB
      go_enter Try.func120, Try.ntmps120
      go_wp2_with (go_at_call 136; refine (sPhase 0 (by decide) _).mono ?_; rintro e w1 ⟨rfl, hb⟩; obtain ⟨hc, hf, hz⟩ := bcell hb; (try simp only [World.size_drew, World.cell?_drew, World.frozen?_drew] at hc hf hz); (try simp at hz); (try have kk := fun o => hc (w.heap.size) o (by first | omega | (simp; done) | (simp; omega))); (try have kf := fun o => hf (w.heap.size) o (by first | omega | (simp; done) | (simp; omega))); (try have zz : w.heap.size < w1.heap.size := by omega))
      go_ret
      exact ⟨_, _, rfl, GoR.one (t := 128) (Blk.new' _ _ rfl), by first | omega | (simp; done) | (simp; omega), by (repeat (first | with_reducible exact Below.refl _ _ | with_reducible assumption | with_reducible refine Below.setCell ?_ (by first | omega | (simp; done) | (simp; omega)) _ | with_reducible refine Below.alloc ?_ (by first | omega | (simp; done) | (simp; omega)) _ | with_reducible refine Below.drew ?_ | with_reducible refine belowDrewN ?_ _ | with_reducible refine Below.trans ?_ (Below.mono (by assumption) (by first | omega | (simp; done) | (simp; omega)))))⟩
  · rcases (show bit B i = 0 ∨ bit B i = 1 by omega) with hb | hb
    · have hm : mv 11 A B C i = (i ^^^ 2 ^ A ^^^ 2 ^ B, 0) := by simp [mv, ha, hb]
      rw [goes_of (by decide) hm]
      have fA : bits .and .i64 ((i : Int) / 2 ^ A) 1 = 1 := eA.trans (congrArg (fun n : Nat => (n : Int)) ha)
      have fB : bits .and .i64 ((i : Int) / 2 ^ B) 1 = 0 := eB.trans (congrArg (fun n : Nat => (n : Int)) hb)
      clear eA eB ha hb hm bA bB
      go_enter Try.func120, Try.ntmps120
      go_wp2_with (go_at_call 136; refine (sPhase 0 (by decide) _).mono ?_; rintro e w1 ⟨rfl, hb⟩; obtain ⟨hc, hf, hz⟩ := bcell hb; (try simp only [World.size_drew, World.cell?_drew, World.frozen?_drew] at hc hf hz); (try simp at hz); (try have kk := fun o => hc (w.heap.size) o (by first | omega | (simp; done) | (simp; omega))); (try have kf := fun o => hf (w.heap.size) o (by first | omega | (simp; done) | (simp; omega))); (try have zz : w.heap.size < w1.heap.size := by omega))
      go_ret
      exact ⟨_, _, rfl, GoR.one (t := 128) (Blk.new' _ _ rfl), by first | omega | (simp; done) | (simp; omega), by (repeat (first | with_reducible exact Below.refl _ _ | with_reducible assumption | with_reducible refine Below.setCell ?_ (by first | omega | (simp; done) | (simp; omega)) _ | with_reducible refine Below.alloc ?_ (by first | omega | (simp; done) | (simp; omega)) _ | with_reducible refine Below.drew ?_ | with_reducible refine belowDrewN ?_ _ | with_reducible refine Below.trans ?_ (Below.mono (by assumption) (by first | omega | (simp; done) | (simp; omega)))))⟩
    · have hm : mv 11 A B C i = (i, 0) := by simp [mv, ha, hb]
      rw [goes_of (by decide) hm]
      have fA : bits .and .i64 ((i : Int) / 2 ^ A) 1 = 1 := eA.trans (congrArg (fun n : Nat => (n : Int)) ha)
      have fB : bits .and .i64 ((i : Int) / 2 ^ B) 1 = 1 := eB.trans (congrArg (fun n : Nat => (n : Int)) hb)
      clear eA eB ha hb hm bA bB
      go_enter Try.func120, Try.ntmps120
      go_wp2_with (go_at_call 136; refine (sPhase 0 (by decide) _).mono ?_; rintro e w1 ⟨rfl, hb⟩; obtain ⟨hc, hf, hz⟩ := bcell hb; (try simp only [World.size_drew, World.cell?_drew, World.frozen?_drew] at hc hf hz); (try simp at hz); (try have kk := fun o => hc (w.heap.size) o (by first | omega | (simp; done) | (simp; omega))); (try have kf := fun o => hf (w.heap.size) o (by first | omega | (simp; done) | (simp; omega))); (try have zz : w.heap.size < w1.heap.size := by omega))
      go_ret
      exact ⟨_, _, rfl, GoR.one (t := 128) (Blk.new' _ _ rfl), by first | omega | (simp; done) | (simp; omega), by (repeat (first | with_reducible exact Below.refl _ _ | with_reducible assumption | with_reducible refine Below.setCell ?_ (by first | omega | (simp; done) | (simp; omega)) _ | with_reducible refine Below.alloc ?_ (by first | omega | (simp; done) | (simp; omega)) _ | with_reducible refine Below.drew ?_ | with_reducible refine belowDrewN ?_ _ | with_reducible refine Below.trans ?_ (Below.mono (by assumption) (by first | omega | (simp; done) | (simp; omega)))))⟩
set_option maxHeartbeats 4000000 in
theorem sGoes12 (A B C i : Nat) (hA : A < 4) (hB : B < 4) (hC : C < 4) (hi : i < 16) (w : World) :
    Calls Try.prog 120 #[Gv ⟨12, A, B, C⟩, .int .i64 i] w (OutGo w (goes ⟨12, A, B, C⟩ i)) := by
  have eA := bits_and1 i hi A hA
  have eB := bits_and1 i hi B hB
  have bA := bit_lt A i
  have bB := bit_lt B i
  rcases (show bit A i = 0 ∨ bit A i = 1 by omega) with ha | ha
  · rcases (show bit B i = 0 ∨ bit B i = 1 by omega) with hb | hb
    · have hm : mv 12 A B C i = (i, 0) := by simp [mv, ha]
      rw [goes_of (by decide) hm]
      have fA : bits .and .i64 ((i : Int) / 2 ^ A) 1 = 0 := eA.trans (congrArg (fun n : Nat => (n : Int)) ha)
      have fB : bits .and .i64 ((i : Int) / 2 ^ B) 1 = 0 := eB.trans (congrArg (fun n : Nat => (n : Int)) hb)
      clear eA eB ha hb hm bA bB
      go_enter Try.func120, Try.ntmps120
      go_wp2_with (first | (go_at_call 165; refine (sl10Flip _ _ _ hi (by assumption) _).mono ?_; rintro e w1 ⟨b, c, rfl, hR, hw, hb⟩) | (go_at_call 166; refine (sl10Phase _ _ _ (by decide) _).mono ?_; rintro e w1 ⟨b, c, rfl, hR, hw, hb⟩))
      go_ret
      exact ⟨b, c, rfl, hR, by simp at hw; omega, by (repeat (first | with_reducible exact Below.refl _ _ | with_reducible assumption | with_reducible refine Below.setCell ?_ (by first | omega | (simp; done) | (simp; omega)) _ | with_reducible refine Below.alloc ?_ (by first | omega | (simp; done) | (simp; omega)) _ | with_reducible refine Below.drew ?_ | with_reducible refine belowDrewN ?_ _ | with_reducible refine Below.trans ?_ (Below.mono (by assumption) (by first | omega | (simp; done) | (simp; omega)))))⟩
    · have hm : mv 12 A B C i = (i, 0) := by simp [mv, ha]
      rw [goes_of (by decide) hm]
      have fA : bits .and .i64 ((i : Int) / 2 ^ A) 1 = 0 := eA.trans (congrArg (fun n : Nat => (n : Int)) ha)
      have fB : bits .and .i64 ((i : Int) / 2 ^ B) 1 = 1 := eB.trans (congrArg (fun n : Nat => (n : Int)) hb)
      clear eA eB ha hb hm bA bB
      go_enter Try.func120, Try.ntmps120
      go_wp2_with (first | (go_at_call 165; refine (sl10Flip _ _ _ hi (by assumption) _).mono ?_; rintro e w1 ⟨b, c, rfl, hR, hw, hb⟩) | (go_at_call 166; refine (sl10Phase _ _ _ (by decide) _).mono ?_; rintro e w1 ⟨b, c, rfl, hR, hw, hb⟩))
      go_ret
      exact ⟨b, c, rfl, hR, by simp at hw; omega, by (repeat (first | with_reducible exact Below.refl _ _ | with_reducible assumption | with_reducible refine Below.setCell ?_ (by first | omega | (simp; done) | (simp; omega)) _ | with_reducible refine Below.alloc ?_ (by first | omega | (simp; done) | (simp; omega)) _ | with_reducible refine Below.drew ?_ | with_reducible refine belowDrewN ?_ _ | with_reducible refine Below.trans ?_ (Below.mono (by assumption) (by first | omega | (simp; done) | (simp; omega)))))⟩
  · rcases (show bit B i = 0 ∨ bit B i = 1 by omega) with hb | hb
    · have hm : mv 12 A B C i = (i, 0) := by simp [mv, ha, hb]
      rw [goes_of (by decide) hm]
      have fA : bits .and .i64 ((i : Int) / 2 ^ A) 1 = 1 := eA.trans (congrArg (fun n : Nat => (n : Int)) ha)
      have fB : bits .and .i64 ((i : Int) / 2 ^ B) 1 = 0 := eB.trans (congrArg (fun n : Nat => (n : Int)) hb)
      clear eA eB ha hb hm bA bB
      go_enter Try.func120, Try.ntmps120
      go_wp2_with (first | (go_at_call 165; refine (sl10Flip _ _ _ hi (by assumption) _).mono ?_; rintro e w1 ⟨b, c, rfl, hR, hw, hb⟩) | (go_at_call 166; refine (sl10Phase _ _ _ (by decide) _).mono ?_; rintro e w1 ⟨b, c, rfl, hR, hw, hb⟩))
      go_ret
      exact ⟨b, c, rfl, hR, by simp at hw; omega, by (repeat (first | with_reducible exact Below.refl _ _ | with_reducible assumption | with_reducible refine Below.setCell ?_ (by first | omega | (simp; done) | (simp; omega)) _ | with_reducible refine Below.alloc ?_ (by first | omega | (simp; done) | (simp; omega)) _ | with_reducible refine Below.drew ?_ | with_reducible refine belowDrewN ?_ _ | with_reducible refine Below.trans ?_ (Below.mono (by assumption) (by first | omega | (simp; done) | (simp; omega)))))⟩
    · have hm : mv 12 A B C i = (i ^^^ 2 ^ C, 0) := by simp [mv, ha, hb]
      rw [goes_of (by decide) hm]
      have fA : bits .and .i64 ((i : Int) / 2 ^ A) 1 = 1 := eA.trans (congrArg (fun n : Nat => (n : Int)) ha)
      have fB : bits .and .i64 ((i : Int) / 2 ^ B) 1 = 1 := eB.trans (congrArg (fun n : Nat => (n : Int)) hb)
      clear eA eB ha hb hm bA bB
      go_enter Try.func120, Try.ntmps120
      go_wp2_with (first | (go_at_call 165; refine (sl10Flip _ _ _ hi (by assumption) _).mono ?_; rintro e w1 ⟨b, c, rfl, hR, hw, hb⟩) | (go_at_call 166; refine (sl10Phase _ _ _ (by decide) _).mono ?_; rintro e w1 ⟨b, c, rfl, hR, hw, hb⟩))
      go_ret
      exact ⟨b, c, rfl, hR, by simp at hw; omega, by (repeat (first | with_reducible exact Below.refl _ _ | with_reducible assumption | with_reducible refine Below.setCell ?_ (by first | omega | (simp; done) | (simp; omega)) _ | with_reducible refine Below.alloc ?_ (by first | omega | (simp; done) | (simp; omega)) _ | with_reducible refine Below.drew ?_ | with_reducible refine belowDrewN ?_ _ | with_reducible refine Below.trans ?_ (Below.mono (by assumption) (by first | omega | (simp; done) | (simp; omega)))))⟩

end Go.Proofs.Yteckhaafdojoeaa

/-! L5: The laws' helpers: numbers written over a state of the call's own, and read back. -/
namespace Go.Proofs.Yteckhaafdojoeaa
open Go.RowKit

def mk (k i : Nat) : DO := ⟨⟨(k + 5 * i : Nat), (k + 5 * i + 1 : Nat), (k + 5 * i + 2 : Nat), (k + 5 * i + 3 : Nat)⟩, (k + 5 * i + 4 : Nat)⟩
def marks (k n : Nat) : List DO := (List.range n).map (mk k)
theorem marks_length (k n : Nat) : (marks k n).length = n := by simp [marks]
theorem marks_get (k n i : Nat) (h : i < (marks k n).length) : (marks k n)[i] = mk k i := by simp [marks]
def mkP (k : Nat) (l : List DO) (j : Nat) : List DO := l.mapIdx fun i x => if i < j then mk k i else x
theorem mkP_length (k : Nat) (l : List DO) (j : Nat) : (mkP k l j).length = l.length := by simp [mkP]
theorem mkP_zero (k : Nat) (l : List DO) : mkP k l 0 = l := by
  apply List.ext_getElem (by simp [mkP])
  intro i h1 h2
  simp [mkP]
theorem mkP_end {k : Nat} {l : List DO} {j : Nat} (h : l.length ≤ j) : mkP k l j = marks k l.length := by
  apply List.ext_getElem (by simp [mkP, marks])
  intro i h1 h2
  have : i < l.length := by simpa [mkP] using h1
  rw [marks_get]
  simp [mkP]
  omega
theorem mkP_step {k : Nat} {l : List DO} {j : Nat} (h : j < l.length) : (mkP k l j).set j (mk k j) = mkP k l (j + 1) := by
  apply List.ext_getElem (by simp [mkP])
  intro i h1 h2
  by_cases hi : i = j
  · subst hi
    simp [mkP]
  · rw [List.getElem_set_ne (by omega)]
    simp only [mkP, List.getElem_mapIdx]
    by_cases h3 : i < j
    · rw [if_pos h3, if_pos (by omega)]
    · rw [if_neg h3, if_neg (by omega)]

set_option maxHeartbeats 4000000 in
theorem lMarkS (base : Nat) (x : Value) (l : List DO) (k : Nat) (hk : k ≤ 1000000000000) (hn : l.length ≤ 2000000) (w : World) (hS : OwnS w base x l) :
    Calls Try.prog 50 #[x, .int .i64 k] w fun e w' => e = .returned (.int .i64 (k + 5 * l.length : Nat)) ∧ OwnS w' base x (marks k l.length) ∧ w.grownBy w' x.ownBlock := by
  obtain ⟨xo, xc, rfl, _, _, _⟩ := hS.read
  by_cases h0 : 0 < l.length
  · obtain ⟨g, rfl, hgb, hgs⟩ := hS.block h0
    show Calls _ _ _ _ fun e w' => _ ∧ _ ∧ w.grownBy w' (some g)
    rw [← mkP_end (l := l) (Nat.le_refl _)]
    rw [← mkP_zero k l, mkP_length] at hS
    generalize hN : l.length = n at *
    go_enter Try.func50, Try.ntmps50
    go_wp2
    go_loopw [1, 5] (fun y z wr => ∃ j : Nat, y = .int .i64 (k + 5 * j : Nat) ∧ z = .int .i64 j ∧ j ≤ n ∧ OwnS wr base (.slice (some ⟨g, 0, none⟩) n xc) (mkP k l j) ∧ w.grownBy wr (some g)) (fun _ z _ => n - (intOf z).toNat)
    case atStart => exact ⟨0, by simp, rfl, Nat.zero_le _, hS, World.grownBy.refl _ _⟩
    case round =>
      obtain ⟨j, rfl, rfl, j0, hS1, hg1⟩ := hrel
      by_cases hj : j < n
      · obtain ⟨hD, q7, q8⟩ := hS1.at (j := j) (by rw [mkP_length, hN]; exact hj)
        have hstep := mkP_step (k := k) (l := l) (j := j) (by omega)
        have q9 := q8 wr (mk k j) (Below.refl _ _)
        rw [hstep] at q9
        have hgr := grown_trans hg1 (setD_grown (g := g) (i := j) (x := mk k j) (Below.refl wr.heap.size wr))
        have hs1 := hg1.size
        obtain ⟨d0, d1, d2, d3, d4⟩ := hD
        have Q9 := Lib.hid q9
        have HG := Lib.hid hgr
        clear q8 q9 hstep hgr hS hS1 hg1
        go_wp2
        go_roundw
        case rel => exact ⟨j + 1, by go_num, by go_num, by omega, Q9.out, HG.out⟩
        case measure => simp [intOf]; omega
      · have hjn : j = n := by omega
        subst hjn
        go_wp2
        go_ret
        exact ⟨rfl, hS1, hg1⟩
  · have hz : l = [] := List.eq_nil_of_length_eq_zero (by omega)
    subst hz
    go_enter Try.func50, Try.ntmps50
    go_wp2
    refine wp_loop_rounds 1 ?_
    rw [rounds_succ]
    go_wp2
    go_ret
    exact ⟨rfl, hS, World.grownBy.refl _ _⟩

theorem marks_at {w : World} {ao : Option Addr} {k n j : Nat} (h : StR w ao (marks k n)) (hj : j < n) : ∃ b o, ao = some ⟨b, o, none⟩ ∧ DAt w b (o + j * 5) (mk k j) := by
  obtain ⟨b, o, h1, h2, h3⟩ := h j (by rw [marks_length]; exact hj)
  rw [marks_get] at h3
  exact ⟨b, o, h1, h3⟩

set_option maxHeartbeats 4000000 in
theorem lHeldS (ao : Option Addr) (n cap k : Nat) (hk : k ≤ 1000000000000) (hn : n ≤ 2000000) (w : World) (hS : StR w ao (marks k n)) :
    Calls Try.prog 51 #[.slice ao n cap, .int .i64 k] w fun e w' => e = .returned (.int .i64 (k + 5 * n : Nat)) ∧ w = w' := by
  go_enter Try.func51, Try.ntmps51
  go_wp2
  go_loopw [1, 5] (fun y z wr => ∃ j : Nat, y = .int .i64 (k + 5 * j : Nat) ∧ z = .int .i64 j ∧ j ≤ n ∧ w = wr) (fun _ z _ => n - (intOf z).toNat)
  case atStart => exact ⟨0, by simp, rfl, Nat.zero_le _, rfl⟩
  case round =>
    obtain ⟨j, rfl, rfl, j0, rfl⟩ := hrel
    by_cases hj : j < n
    · obtain ⟨b, o, rfl, hD⟩ := marks_at hS hj
      obtain ⟨d0, d1, d2, d3, d4⟩ := hD
      simp only [mk] at d0 d1 d2 d3 d4
      clear hS
      go_wp2
      go_roundw
      case rel => exact ⟨j + 1, by go_num, by go_num, by omega, by first | rfl | trivial⟩
      case measure => simp [intOf]; omega
    · have hjn : j = n := by omega
      subst hjn
      go_wp2
      go_ret
      exact ⟨rfl, rfl⟩

end Go.Proofs.Yteckhaafdojoeaa

/-! L6: The laws' helper that copies a gate. -/
namespace Go.Proofs.Yteckhaafdojoeaa
open Go.RowKit

set_option maxHeartbeats 4000000 in
theorem lToGate (g : GT) (w : World) :
    Calls Try.prog 46 #[Gv g] w fun e w' => e = .returned (Gv g) ∧ Below w.heap.size w w' := by
  obtain ⟨k, a, b, c⟩ := g
  go_enter Try.func46, Try.ntmps46
  go_wp2
  exact bodyPost_ret (v := .agg #[.int .i64 k, .int .i64 a, .int .i64 b, .int .i64 c]) (by simp [results, Try.results46, go_sem, *]) rfl ⟨rfl, by (repeat (first | with_reducible exact Below.refl _ _ | with_reducible assumption | with_reducible refine Below.setCell ?_ (by first | omega | (simp; done) | (simp; omega)) _ | with_reducible refine Below.alloc ?_ (by first | omega | (simp; done) | (simp; omega)) _ | with_reducible refine Below.drew ?_ | with_reducible refine belowDrewN ?_ _ | with_reducible refine Below.trans ?_ (Below.mono (by assumption) (by first | omega | (simp; done) | (simp; omega)))))⟩

end Go.Proofs.Yteckhaafdojoeaa
