/- FnPermMat: the walk. -/
import Derived.Test.YteckhaafdojoeaaGj
namespace Go.Proofs.Yteckhaafdojoeaa
open Go.RowKit BigFrame

theorem lBig (ao : Option Addr) (n cap : Nat) (hn : n ≤ 9223372036854775807) (w : World) :
    Calls Try.prog 19 #[.slice ao n cap] w fun e w' => e = .returned (.bool (decide (1048576 < n))) ∧ w = w' := by
  by_cases h : 1048576 < n
  · have hd : decide (1048576 < n) = true := by simpa using h
    have hd2 : decide ((1048576 : Int) < (n : Int)) = true := by simp; omega
    go_enter Try.func19, Try.ntmps19
    go_wp2
    go_ret
    exact ⟨by rw [hd]; rfl, rfl⟩
  · have hd : decide (1048576 < n) = false := by simpa using h
    have hd2 : decide ((1048576 : Int) < (n : Int)) = false := by simp; omega
    go_enter Try.func19, Try.ntmps19
    go_wp2
    go_ret
    exact ⟨by rw [hd]; rfl, rfl⟩
theorem flip_szM {m : List (List DO)} (h : m.length ≤ 2000000) : SzM (flip m) := by
  refine ⟨by rw [flip_length]; exact h, fun r hr => ?_⟩
  rw [mem_flip_length hr]
  exact h
theorem permM_sz (p : List Int) : SzM (permM p) := by
  unfold permM
  split
  · rename_i h
    have := isPerm_len h
    refine flip_szM ?_
    rw [colsM_length]
    have := two_le16 (n := p.length) (by omega)
    omega
  · exact ⟨Nat.zero_le _, fun r hr => by cases hr⟩
set_option maxRecDepth 100000 in
set_option maxHeartbeats 8000000 in
theorem lPermMat (ao : Option Addr) (l : List Int) (cap : Nat) (hn : l.length ≤ 9223372036854775807) (w : World) (h : RdU w ao l) :
    Calls Try.prog 3 #[.slice ao l.length cap] w fun e w' => e = .returned (.bool true) ∧ Below w.heap.size w w' := by
  by_cases hb : 1048576 < l.length
  · have hd : decide (1048576 < l.length) = true := by simpa using hb
    go_enter Try.func3, Try.ntmps3
    go_wp2_with fail
    refine (lBig ao l.length cap hn _).mono ?_
    rintro e _ ⟨rfl, rfl⟩
    go_wp2
    go_ret
    exact ⟨rfl, by (repeat (first | with_reducible exact Below.refl _ _ | with_reducible assumption | with_reducible refine Below.setCell ?_ (by first | omega | (simp; done) | (simp; omega)) _ | with_reducible refine Below.alloc ?_ (by first | omega | (simp; done) | (simp; omega)) _ | with_reducible refine Below.drew ?_ | with_reducible refine belowDrewN ?_ _ | with_reducible refine Below.trans ?_ (Below.mono (by assumption) (by first | omega | (simp; done) | (simp; omega)))))⟩
  · have hd : decide (1048576 < l.length) = false := by simpa using hb
    go_enter Try.func3, Try.ntmps3
    go_wp2_with fail
    refine (lBig ao l.length cap hn _).mono ?_
    rintro e _ ⟨rfl, rfl⟩
    go_wp2_with fail
    refine (dDrawPermMat ao l cap (by omega) _ h).mono ?_
    rintro e w1 ⟨v, p, rfl, hp5, hS, hb1⟩
    have hs1 := hb1.size
    obtain ⟨po, pc, rfl, hpR, hpc, _⟩ := hS.read icells_len
    clear hS
    go_wp2_with fail
    refine (iPermMatrix po p pc hpc (by omega) _ hpR).mono ?_
    rintro e w2 ⟨m, rfl, hm, hb2⟩
    have hs2 := hb2.size
    obtain ⟨mo, mc, rfl, hmR, _, _⟩ := hm.read
    clear hm
    go_wp2_with fail
    refine (sPermMatrix po p pc hpc (by omega) _ (hpR.below hb2)).mono ?_
    rintro e w3 ⟨m', rfl, hm', hb3⟩
    have hs3 := hb3.size
    obtain ⟨no, nc, rfl, hnR, _, _⟩ := hm'.read
    clear hm'
    go_wp2_with fail
    refine (sEqualMatrix mo no (permM p) (permM p) mc nc (permM_sz p) (permM_sz p) _ (hmR.below hb3) hnR).mono ?_
    rintro e w4 ⟨rfl, hb4⟩
    have hs4 := hb4.size
    rw [decide_eq_true rfl]
    have hb24 : Below w2.heap.size w2 w4 := hb3.trans (hb4.mono hs3)
    have hmR4 := hmR.below hb24
    have hpR4 := (hpR.below hb2).below hb24
    have hb04 : Below w.heap.size w w4 := (hb1.trans (hb2.mono hs1)).trans (hb24.mono (by omega))
    clear hb1 hb2 hb3 hb4 hb24 hnR hmR hpR
    go_wp2_with fail
    refine (sIsPermutation po p pc (by omega) hpc _ hpR4).mono ?_
    rintro e w5 ⟨rfl, hq5⟩
    have hb5 := hq5.below
    have hs5 := hb5.size
    have hmR5 := hmR4.below hb5
    have hpR5 := hpR4.below hb5
    have hb05 : Below w.heap.size w w5 := hb04.trans (hb5.mono (by omega))
    clear hmR4 hpR4 hb5 hq5 hb04
    by_cases hp : isPerm p = true
    · have hu := perm_unitary hp
      have ha := adj_inv hp
      have hil := (perm_facts hp).2.1
      have HA := Lib.hid ha
      have HIL := Lib.hid hil
      rw [hp]
      clear hp ha hil
      go_wp2_with fail
      refine (iIsUnitary mo (permM p) mc (permM_sz p) _ hmR5).mono ?_
      rintro e w6 ⟨rfl, hb6⟩
      have hs6 := hb6.size
      rw [hu]
      go_wp2_with fail
      refine (iAdjointMatrix mo (permM p) mc (permM_sz p) _ (hmR5.below hb6)).mono ?_
      rintro e w7 ⟨a, rfl, ha7, hb7⟩
      have hs7 := hb7.size
      obtain ⟨ado, adc, rfl, haR, _, _⟩ := ha7.read
      have hpR7 := (hpR5.below hb6).below hb7
      clear ha7
      go_wp2_with fail
      refine (iInversePerm po p pc (by omega) _ hpR7).mono ?_
      rintro e w8 ⟨q, qs, rfl, rfl, hq8, hb8⟩
      have hs8 := hb8.size
      obtain ⟨qo, qc', rfl, hqR, hqc, _⟩ := hq8.read icells_len
      clear hq8
      have hql : (invP p).length ≤ 100 := by rw [HIL.out]; omega
      go_wp2_with fail
      refine (iPermMatrix qo (invP p) qc' hqc hql _ hqR).mono ?_
      rintro e w9 ⟨b, rfl, hb9', hb9⟩
      have hs9 := hb9.size
      obtain ⟨bo, bc, rfl, hbR, _, _⟩ := hb9'.read
      clear hb9'
      go_wp2_with fail
      refine (sEqualMatrix ado bo (adjM (permM p)) (permM (invP p)) adc bc (adjM_sz _) (permM_sz _) _ (haR.below (hb8.trans (hb9.mono hs8))) hbR).mono ?_
      rintro e w10 ⟨rfl, hb10⟩
      rw [decide_eq_true HA.out]
      have hfinal : Below w.heap.size w w10 := ((((hb05.trans (hb6.mono (by omega))).trans (hb7.mono (by omega))).trans (hb8.mono (by omega))).trans (hb9.mono (by omega))).trans (hb10.mono (by omega))
      clear hb6 hb7 hb8 hb9 hb10 hb05 hu
      go_wp2
      go_ret
      exact ⟨rfl, hfinal⟩
    · have hp' : isPerm p = false := by simpa using hp
      have hz : permM p = [] := if_neg hp
      rw [hp', hz]
      clear hp hp' hmR5
      go_wp2
      go_ret
      exact ⟨rfl, hb05⟩

end Go.Proofs.Yteckhaafdojoeaa
