/- The identity matrix; whether a matrix is unitary (impl). -/
import Derived.Test.YteckhaafdojoeaaS12
namespace Go.Proofs.Yteckhaafdojoeaa
open Go.RowKit

def identM (n : Int) : List (List DO) := if inR 1 4 n then (List.range (2 ^ n.toNat)).map (fun i : Nat => basis n i) else []
theorem identM_no {n : Int} (h : ¬ inR 1 4 n = true) : identM n = [] := by rw [identM, if_neg h]
theorem identM_take {n : Int} {N : Nat} (h1 : inR 1 4 n = true) (h2 : 2 ^ n.toNat = N) : ∀ j : Nat, j < N → (identM n).take (j + 1) = (identM n).take j ++ [basis n j] := fun j hj => by
  rw [identM, if_pos h1, h2, map_take_snoc _ _ _ (by simpa using hj)]
  simp
def unitary (m : List (List DO)) : Bool := (mulM (adjM m) m).2 && decide ((mulM (adjM m) m).1 = identM (qc (m.headD []).length))
theorem unitary_no {m : List (List DO)} (h : ¬ (mulM (adjM m) m).2 = true) : unitary m = false := by simp [unitary, h]
theorem unitary_yes {m : List (List DO)} (h : (mulM (adjM m) m).2 = true) : unitary m = decide ((mulM (adjM m) m).1 = identM (qc (m.headD []).length)) := by simp [unitary, h]
theorem SzM.of_ok {m : List (List DO)} (h : okM m = true) : SzM m := by
  have h1 := okM_len h
  refine ⟨by omega, fun r hr => ?_⟩
  have := (okM_rows h hr).1
  omega
theorem mulM_ok {a b : List (List DO)} (h : (mulM a b).2 = true) : okM a = true ∧ okM b = true ∧ a.length = b.length := by
  unfold mulM at h
  split at h
  · rename_i hc
    simpa using hc
  · simp at h
theorem mulM_sz (a b : List (List DO)) : SzM (mulM a b).1 := by
  unfold mulM
  split
  · rename_i hc
    simp only [Bool.and_eq_true, decide_eq_true_eq] at hc
    have hb := okM_len hc.2.1
    split
    · refine ⟨by simp [flip]; omega, fun r hr => ?_⟩
      have := mem_flip_length hr
      simp [flip] at this
      omega
    · exact ⟨Nat.zero_le _, fun r hr => by cases hr⟩
  · exact ⟨Nat.zero_le _, fun r hr => by cases hr⟩
theorem identM_sz (n : Int) : SzM (identM n) := by
  by_cases h : inR 1 4 n = true
  · have hn := (inR_iff _ _ _).1 h
    have hcase : n = 1 ∨ n = 2 ∨ n = 3 ∨ n = 4 := by omega
    have hl : ∀ i : Int, (basis n i).length ≤ 16 := fun i => by
      unfold basis
      split
      · rw [List.length_set, List.length_replicate]
        rcases hcase with rfl | rfl | rfl | rfl <;> decide
      · simp
    rw [identM, if_pos h]
    refine ⟨by rw [List.length_map, List.length_range]; rcases hcase with rfl | rfl | rfl | rfl <;> decide, fun r hr => ?_⟩
    obtain ⟨i, _, rfl⟩ := List.mem_map.1 hr
    have := hl i
    omega
  · rw [identM_no h]
    exact ⟨Nat.zero_le _, fun r hr => by cases hr⟩
theorem adjM_sz (m : List (List DO)) : SzM (adjM m) := by
  by_cases h : okM m = true
  · rw [adjM_yes h]
    have hl := okM_len h
    refine ⟨by simp [flip]; omega, fun r hr => ?_⟩
    obtain ⟨c, hc, rfl⟩ := List.mem_map.1 hr
    have := mem_flip_length hc
    rw [List.length_map]
    omega
  · rw [adjM_no h]
    exact ⟨Nat.zero_le _, fun r hr => by cases hr⟩

set_option maxRecDepth 100000 in
set_option maxHeartbeats 8000000 in
theorem iIdentityMatrix (n : Int) (w : World) :
    Calls Try.prog 105 #[.int .i64 n] w fun e w' => ∃ v, e = .returned v ∧ OwnM w' w.heap.size v (identM n) ∧ Below w.heap.size w w' := by
  obtain ⟨iS, hiS, hzS0, hzS1, hzS2⟩ := info_parts infoS
  by_cases hn : inR 1 4 n = true
  · have hn' := (inR_iff _ _ _).1 hn
    have hcase : n = 1 ∨ n = 2 ∨ n = 3 ∨ n = 4 := by omega
    rcases hcase with rfl | rfl | rfl | rfl
    · have hlen : (identM 1).length = 2 := rfl
      have hfin := Lib.hid (identM_take (n := 1) (N := 2) rfl rfl)
      have HL := Lib.hid hlen
      clear hlen
      go_enter Try.func105, Try.ntmps105
      go_wp2_with (go_at_call 116; refine (iIn _ _ _ _).mono ?_; rintro e w1 ⟨rfl, rfl⟩)
      go_loopw [3, 4] (fun v x wr => ∃ j : Nat, x = .int .i64 j ∧ j ≤ 2 ∧ OwnM wr w.heap.size v ((identM 1).take j) ∧ Below w.heap.size w wr) (fun _ x _ => 2 - (intOf x).toNat)
      case atStart => exact ⟨0, rfl, Nat.zero_le _, OwnM.empty (Nat.le_refl _), by (repeat (first | with_reducible exact Below.refl _ _ | with_reducible assumption | with_reducible refine Below.setCell ?_ (by first | omega | (simp; done) | (simp; omega)) _ | with_reducible refine Below.alloc ?_ (by first | omega | (simp; done) | (simp; omega)) _ | with_reducible refine Below.drew ?_ | with_reducible refine belowDrewN ?_ _ | with_reducible refine Below.trans ?_ (Below.mono (by assumption) (by first | omega | (simp; done) | (simp; omega)))))⟩
      case round =>
        obtain ⟨j, rfl, h0, hM, hb0⟩ := hrel
        have hs0 := hb0.size
        by_cases hj : j < 2
        · have htl : ((identM 1).take j).length = j := by rw [List.length_take, HL.out]; omega
          go_wp2_with fail
          refine (iBasisState _ _ _).mono ?_
          rintro e w7 ⟨x, rfl, hx, hb7⟩
          obtain ⟨vs, ho, hrows, hdist⟩ := hM
          have hb8 : Below w.heap.size w w7 := hb0.trans (hb7.mono hs0)
          have hs8 := hb8.size
          obtain ⟨xo, xc, rfl, _, _, _⟩ := hx.read
          have ho1 := ownsRow_below ho hb7 (Nat.le_refl _)
          go_wp2_with (first | (at_builtin; refine wpList_append_own _ rfl _ _ 26 rfl w.heap.size TS iS _ 1 24 Try.underlying26 hiS hzS0 hzS1 hzS2 rfl (by decide) _ _ _ rfl (World.ownsRow.alloc ho1 _) ⟨w7.heap.size, 0, none⟩ 1 1 [.slice xo (basis 1 j).length xc] rfl rfl ?c1 ?c2 ?c3 ?c4 ?c5 ?_))
          case c1 => exact at_new _ [Value.slice xo (basis 1 j).length xc] _
          case c2 => exact slice_one _ _ _
          case c3 => rw [htl]; unfold maxLen; omega
          case c4 => rw [htl]; omega
          case c5 => simp; omega
          intro v' w' hown' hgrow _
          have hM' : OwnM w' w.heap.size v' ((identM 1).take (j + 1)) := by
            rw [hfin.out j hj]
            exact OwnM.snoc hs0 ho hrows hdist hb7 hx (by rw [htl]; exact hown') hgrow
          have hbb : Below w.heap.size w w' := (hb8.alloc hs8 _).grown hgrow (by simp; omega) fun g hg => (World.ownsRow.lt ho1 g hg).1
          clear hown' hgrow ho ho1 hrows hdist
          go_wp2
          go_roundw
          case rel => exact ⟨j + 1, by go_num, by omega, hM', hbb⟩
          case measure => simp [intOf]; omega
        · have hjn : j = 2 := by omega
          subst hjn
          have htk : (identM 1).take 2 = identM 1 := List.take_of_length_le (by rw [HL.out]; exact Nat.le_refl _)
          rw [htk] at hM
          go_wp2
          go_ret
          exact ⟨_, rfl, hM, hb0⟩
    · have hlen : (identM 2).length = 4 := rfl
      have hfin := Lib.hid (identM_take (n := 2) (N := 4) rfl rfl)
      have HL := Lib.hid hlen
      clear hlen
      go_enter Try.func105, Try.ntmps105
      go_wp2_with (go_at_call 116; refine (iIn _ _ _ _).mono ?_; rintro e w1 ⟨rfl, rfl⟩)
      go_loopw [3, 4] (fun v x wr => ∃ j : Nat, x = .int .i64 j ∧ j ≤ 4 ∧ OwnM wr w.heap.size v ((identM 2).take j) ∧ Below w.heap.size w wr) (fun _ x _ => 4 - (intOf x).toNat)
      case atStart => exact ⟨0, rfl, Nat.zero_le _, OwnM.empty (Nat.le_refl _), by (repeat (first | with_reducible exact Below.refl _ _ | with_reducible assumption | with_reducible refine Below.setCell ?_ (by first | omega | (simp; done) | (simp; omega)) _ | with_reducible refine Below.alloc ?_ (by first | omega | (simp; done) | (simp; omega)) _ | with_reducible refine Below.drew ?_ | with_reducible refine belowDrewN ?_ _ | with_reducible refine Below.trans ?_ (Below.mono (by assumption) (by first | omega | (simp; done) | (simp; omega)))))⟩
      case round =>
        obtain ⟨j, rfl, h0, hM, hb0⟩ := hrel
        have hs0 := hb0.size
        by_cases hj : j < 4
        · have htl : ((identM 2).take j).length = j := by rw [List.length_take, HL.out]; omega
          go_wp2_with fail
          refine (iBasisState _ _ _).mono ?_
          rintro e w7 ⟨x, rfl, hx, hb7⟩
          obtain ⟨vs, ho, hrows, hdist⟩ := hM
          have hb8 : Below w.heap.size w w7 := hb0.trans (hb7.mono hs0)
          have hs8 := hb8.size
          obtain ⟨xo, xc, rfl, _, _, _⟩ := hx.read
          have ho1 := ownsRow_below ho hb7 (Nat.le_refl _)
          go_wp2_with (first | (at_builtin; refine wpList_append_own _ rfl _ _ 26 rfl w.heap.size TS iS _ 1 24 Try.underlying26 hiS hzS0 hzS1 hzS2 rfl (by decide) _ _ _ rfl (World.ownsRow.alloc ho1 _) ⟨w7.heap.size, 0, none⟩ 1 1 [.slice xo (basis 2 j).length xc] rfl rfl ?c1 ?c2 ?c3 ?c4 ?c5 ?_))
          case c1 => exact at_new _ [Value.slice xo (basis 2 j).length xc] _
          case c2 => exact slice_one _ _ _
          case c3 => rw [htl]; unfold maxLen; omega
          case c4 => rw [htl]; omega
          case c5 => simp; omega
          intro v' w' hown' hgrow _
          have hM' : OwnM w' w.heap.size v' ((identM 2).take (j + 1)) := by
            rw [hfin.out j hj]
            exact OwnM.snoc hs0 ho hrows hdist hb7 hx (by rw [htl]; exact hown') hgrow
          have hbb : Below w.heap.size w w' := (hb8.alloc hs8 _).grown hgrow (by simp; omega) fun g hg => (World.ownsRow.lt ho1 g hg).1
          clear hown' hgrow ho ho1 hrows hdist
          go_wp2
          go_roundw
          case rel => exact ⟨j + 1, by go_num, by omega, hM', hbb⟩
          case measure => simp [intOf]; omega
        · have hjn : j = 4 := by omega
          subst hjn
          have htk : (identM 2).take 4 = identM 2 := List.take_of_length_le (by rw [HL.out]; exact Nat.le_refl _)
          rw [htk] at hM
          go_wp2
          go_ret
          exact ⟨_, rfl, hM, hb0⟩
    · have hlen : (identM 3).length = 8 := rfl
      have hfin := Lib.hid (identM_take (n := 3) (N := 8) rfl rfl)
      have HL := Lib.hid hlen
      clear hlen
      go_enter Try.func105, Try.ntmps105
      go_wp2_with (go_at_call 116; refine (iIn _ _ _ _).mono ?_; rintro e w1 ⟨rfl, rfl⟩)
      go_loopw [3, 4] (fun v x wr => ∃ j : Nat, x = .int .i64 j ∧ j ≤ 8 ∧ OwnM wr w.heap.size v ((identM 3).take j) ∧ Below w.heap.size w wr) (fun _ x _ => 8 - (intOf x).toNat)
      case atStart => exact ⟨0, rfl, Nat.zero_le _, OwnM.empty (Nat.le_refl _), by (repeat (first | with_reducible exact Below.refl _ _ | with_reducible assumption | with_reducible refine Below.setCell ?_ (by first | omega | (simp; done) | (simp; omega)) _ | with_reducible refine Below.alloc ?_ (by first | omega | (simp; done) | (simp; omega)) _ | with_reducible refine Below.drew ?_ | with_reducible refine belowDrewN ?_ _ | with_reducible refine Below.trans ?_ (Below.mono (by assumption) (by first | omega | (simp; done) | (simp; omega)))))⟩
      case round =>
        obtain ⟨j, rfl, h0, hM, hb0⟩ := hrel
        have hs0 := hb0.size
        by_cases hj : j < 8
        · have htl : ((identM 3).take j).length = j := by rw [List.length_take, HL.out]; omega
          go_wp2_with fail
          refine (iBasisState _ _ _).mono ?_
          rintro e w7 ⟨x, rfl, hx, hb7⟩
          obtain ⟨vs, ho, hrows, hdist⟩ := hM
          have hb8 : Below w.heap.size w w7 := hb0.trans (hb7.mono hs0)
          have hs8 := hb8.size
          obtain ⟨xo, xc, rfl, _, _, _⟩ := hx.read
          have ho1 := ownsRow_below ho hb7 (Nat.le_refl _)
          go_wp2_with (first | (at_builtin; refine wpList_append_own _ rfl _ _ 26 rfl w.heap.size TS iS _ 1 24 Try.underlying26 hiS hzS0 hzS1 hzS2 rfl (by decide) _ _ _ rfl (World.ownsRow.alloc ho1 _) ⟨w7.heap.size, 0, none⟩ 1 1 [.slice xo (basis 3 j).length xc] rfl rfl ?c1 ?c2 ?c3 ?c4 ?c5 ?_))
          case c1 => exact at_new _ [Value.slice xo (basis 3 j).length xc] _
          case c2 => exact slice_one _ _ _
          case c3 => rw [htl]; unfold maxLen; omega
          case c4 => rw [htl]; omega
          case c5 => simp; omega
          intro v' w' hown' hgrow _
          have hM' : OwnM w' w.heap.size v' ((identM 3).take (j + 1)) := by
            rw [hfin.out j hj]
            exact OwnM.snoc hs0 ho hrows hdist hb7 hx (by rw [htl]; exact hown') hgrow
          have hbb : Below w.heap.size w w' := (hb8.alloc hs8 _).grown hgrow (by simp; omega) fun g hg => (World.ownsRow.lt ho1 g hg).1
          clear hown' hgrow ho ho1 hrows hdist
          go_wp2
          go_roundw
          case rel => exact ⟨j + 1, by go_num, by omega, hM', hbb⟩
          case measure => simp [intOf]; omega
        · have hjn : j = 8 := by omega
          subst hjn
          have htk : (identM 3).take 8 = identM 3 := List.take_of_length_le (by rw [HL.out]; exact Nat.le_refl _)
          rw [htk] at hM
          go_wp2
          go_ret
          exact ⟨_, rfl, hM, hb0⟩
    · have hlen : (identM 4).length = 16 := rfl
      have hfin := Lib.hid (identM_take (n := 4) (N := 16) rfl rfl)
      have HL := Lib.hid hlen
      clear hlen
      go_enter Try.func105, Try.ntmps105
      go_wp2_with (go_at_call 116; refine (iIn _ _ _ _).mono ?_; rintro e w1 ⟨rfl, rfl⟩)
      go_loopw [3, 4] (fun v x wr => ∃ j : Nat, x = .int .i64 j ∧ j ≤ 16 ∧ OwnM wr w.heap.size v ((identM 4).take j) ∧ Below w.heap.size w wr) (fun _ x _ => 16 - (intOf x).toNat)
      case atStart => exact ⟨0, rfl, Nat.zero_le _, OwnM.empty (Nat.le_refl _), by (repeat (first | with_reducible exact Below.refl _ _ | with_reducible assumption | with_reducible refine Below.setCell ?_ (by first | omega | (simp; done) | (simp; omega)) _ | with_reducible refine Below.alloc ?_ (by first | omega | (simp; done) | (simp; omega)) _ | with_reducible refine Below.drew ?_ | with_reducible refine belowDrewN ?_ _ | with_reducible refine Below.trans ?_ (Below.mono (by assumption) (by first | omega | (simp; done) | (simp; omega)))))⟩
      case round =>
        obtain ⟨j, rfl, h0, hM, hb0⟩ := hrel
        have hs0 := hb0.size
        by_cases hj : j < 16
        · have htl : ((identM 4).take j).length = j := by rw [List.length_take, HL.out]; omega
          go_wp2_with fail
          refine (iBasisState _ _ _).mono ?_
          rintro e w7 ⟨x, rfl, hx, hb7⟩
          obtain ⟨vs, ho, hrows, hdist⟩ := hM
          have hb8 : Below w.heap.size w w7 := hb0.trans (hb7.mono hs0)
          have hs8 := hb8.size
          obtain ⟨xo, xc, rfl, _, _, _⟩ := hx.read
          have ho1 := ownsRow_below ho hb7 (Nat.le_refl _)
          go_wp2_with (first | (at_builtin; refine wpList_append_own _ rfl _ _ 26 rfl w.heap.size TS iS _ 1 24 Try.underlying26 hiS hzS0 hzS1 hzS2 rfl (by decide) _ _ _ rfl (World.ownsRow.alloc ho1 _) ⟨w7.heap.size, 0, none⟩ 1 1 [.slice xo (basis 4 j).length xc] rfl rfl ?c1 ?c2 ?c3 ?c4 ?c5 ?_))
          case c1 => exact at_new _ [Value.slice xo (basis 4 j).length xc] _
          case c2 => exact slice_one _ _ _
          case c3 => rw [htl]; unfold maxLen; omega
          case c4 => rw [htl]; omega
          case c5 => simp; omega
          intro v' w' hown' hgrow _
          have hM' : OwnM w' w.heap.size v' ((identM 4).take (j + 1)) := by
            rw [hfin.out j hj]
            exact OwnM.snoc hs0 ho hrows hdist hb7 hx (by rw [htl]; exact hown') hgrow
          have hbb : Below w.heap.size w w' := (hb8.alloc hs8 _).grown hgrow (by simp; omega) fun g hg => (World.ownsRow.lt ho1 g hg).1
          clear hown' hgrow ho ho1 hrows hdist
          go_wp2
          go_roundw
          case rel => exact ⟨j + 1, by go_num, by omega, hM', hbb⟩
          case measure => simp [intOf]; omega
        · have hjn : j = 16 := by omega
          subst hjn
          have htk : (identM 4).take 16 = identM 4 := List.take_of_length_le (by rw [HL.out]; exact Nat.le_refl _)
          rw [htk] at hM
          go_wp2
          go_ret
          exact ⟨_, rfl, hM, hb0⟩
  · have hfin := Lib.hid (identM_no hn)
    go_enter Try.func105, Try.ntmps105
    go_wp2_with (go_at_call 116; refine (iIn _ _ _ _).mono ?_; rintro e w1 ⟨rfl, rfl⟩)
    go_ret
    rw [hfin.out]
    exact ⟨_, rfl, OwnM.nil _ _, by (repeat (first | with_reducible exact Below.refl _ _ | with_reducible assumption | with_reducible refine Below.setCell ?_ (by first | omega | (simp; done) | (simp; omega)) _ | with_reducible refine Below.alloc ?_ (by first | omega | (simp; done) | (simp; omega)) _ | with_reducible refine Below.drew ?_ | with_reducible refine belowDrewN ?_ _ | with_reducible refine Below.trans ?_ (Below.mono (by assumption) (by first | omega | (simp; done) | (simp; omega)))))⟩

set_option maxHeartbeats 4000000 in
theorem iIsUnitary (ao : Option Addr) (m : List (List DO)) (cap : Nat) (hz : SzM m) (w : World) (h : MtR w ao m) :
    Calls Try.prog 25 #[.slice ao m.length cap] w fun e w' => e = .returned (.bool (unitary m)) ∧ Below w.heap.size w w' := by
  go_enter Try.func25, Try.ntmps25
  go_wp2_with fail
  refine (iAdjointMatrix _ _ _ hz _ h).mono ?_
  rintro e w1 ⟨x, rfl, hx, hb1⟩
  have hs1 := hb1.size
  obtain ⟨xo, xc, rfl, hxR, _, _⟩ := hx.read
  go_wp2_with fail
  refine (iMulMatrix _ _ (adjM m) m _ _ (adjM_sz m) hz _ hxR (h.below hb1)).mono ?_
  rintro e w2 ⟨y, rfl, hy, hb2⟩
  have hb3 : Below w.heap.size w w2 := hb1.trans (hb2.mono hs1)
  have hs3 := hb3.size
  obtain ⟨yo, yc, rfl, hyR, _, _⟩ := hy.read
  by_cases hd : (mulM (adjM m) m).2 = true
  · have hfin := Lib.hid (unitary_yes hd)
    have hsz := mulM_sz (adjM m) m
    have hok := (mulM_ok hd).2.1
    have hm0 := okM_pos hok
    obtain ⟨b, o, rfl, hlt, ro, rc, hcell, hR⟩ := (h.below hb3) 0 hm0
    have hml : m[0].length ≤ 9223372036854775807 := by have := (okM_rows hok (List.getElem_mem hm0)).1; have := okM_len hok; omega
    have hhead : m.headD [] = m[0] := by
      cases m with
      | nil => exact absurd hm0 (Nat.lt_irrefl _)
      | cons r rs => rfl
    have HH := Lib.hid hhead
    clear hhead h hx hy hxR
    generalize (mulM (adjM m) m).1 = p at *
    rw [Nat.add_zero] at hcell
    go_wp2_with fail
    refine (iQubitCount _ _ _ hml _).mono ?_
    rintro e _ ⟨rfl, rfl⟩
    go_wp2_with fail
    refine (iIdentityMatrix _ _).mono ?_
    rintro e w4 ⟨z, rfl, hz4, hb4⟩
    have hs4 := hb4.size
    obtain ⟨zo, zc, rfl, hzR, _, _⟩ := hz4.read
    go_wp2_with fail
    refine (iEqualMatrix _ _ p (identM (qc m[0].length)) _ _ hsz (identM_sz _) _ (hyR.below hb4) hzR).mono ?_
    rintro e w5 ⟨rfl, hb5⟩
    have hs5 := hb5.size
    go_wp2
    go_ret
    exact ⟨by rw [hfin.out, HH.out]; rfl, by (repeat (first | with_reducible exact Below.refl _ _ | with_reducible assumption | with_reducible refine Below.setCell ?_ (by first | omega | (simp; done) | (simp; omega)) _ | with_reducible refine Below.alloc ?_ (by first | omega | (simp; done) | (simp; omega)) _ | with_reducible refine Below.drew ?_ | with_reducible refine belowDrewN ?_ _ | with_reducible refine Below.trans ?_ (Below.mono (by assumption) (by first | omega | (simp; done) | (simp; omega)))))⟩
  · have hfin := Lib.hid (unitary_no hd)
    go_wp2
    go_ret
    exact ⟨by rw [hfin.out]; rfl, by (repeat (first | with_reducible exact Below.refl _ _ | with_reducible assumption | with_reducible refine Below.setCell ?_ (by first | omega | (simp; done) | (simp; omega)) _ | with_reducible refine Below.alloc ?_ (by first | omega | (simp; done) | (simp; omega)) _ | with_reducible refine Below.drew ?_ | with_reducible refine belowDrewN ?_ _ | with_reducible refine Below.trans ?_ (Below.mono (by assumption) (by first | omega | (simp; done) | (simp; omega)))))⟩

end Go.Proofs.Yteckhaafdojoeaa
