/- FnApplyGate: the walk. -/
import Derived.Test.YteckhaafdojoeaaP6z
import Derived.Test.YteckhaafdojoeaaGl
import Derived.Test.YteckhaafdojoeaaGk
namespace Go.Proofs.Yteckhaafdojoeaa
open Go.RowKit BigFrame

theorem gateM_szM {g : GT} {n : Nat} (hg : g.ok n = true) : SzM (gateM g n).1 := by
  obtain ⟨s, -⟩ := gateM_sq hg
  have hp := (GT.parts hg).1
  have h16 := two_le16 (n := n) (by omega)
  exact ⟨by rw [s.1]; omega, fun r hr => by rw [(s.2 r hr).1]; omega⟩
theorem applyM_len' {m : List (List DO)} {v : List DO} (h : m.length ≤ 2000000) : (applyM m v).1.length ≤ 2000000 := by
  unfold applyM
  split
  · split
    · rw [List.length_map]; exact h
    · exact Nat.zero_le _
  · exact Nat.zero_le _

set_option maxRecDepth 100000 in
set_option maxHeartbeats 8000000 in
theorem lApplyGate (ao : Option Addr) (l : List Int) (cap : Nat) (hn : l.length ≤ 9223372036854775807) (w : World) (h : RdU w ao l) :
    Calls Try.prog 12 #[.slice ao l.length cap] w fun e w' => e = .returned (.bool true) ∧ Below w.heap.size w w' := by
  by_cases hb : 1048576 < l.length
  · have hd : decide (1048576 < l.length) = true := by simpa using hb
    go_enter Try.func12, Try.ntmps12
    go_wp2_with fail
    refine (lBig ao l.length cap hn _).mono ?_
    rintro e _ ⟨rfl, rfl⟩
    go_wp2
    go_ret
    exact ⟨rfl, by (repeat (first | with_reducible exact Below.refl _ _ | with_reducible assumption | with_reducible refine Below.setCell ?_ (by first | omega | (simp; done) | (simp; omega)) _ | with_reducible refine Below.alloc ?_ (by first | omega | (simp; done) | (simp; omega)) _ | with_reducible refine Below.drew ?_ | with_reducible refine belowDrewN ?_ _ | with_reducible refine Below.trans ?_ (Below.mono (by assumption) (by first | omega | (simp; done) | (simp; omega)))))⟩
  · have hd : decide (1048576 < l.length) = false := by simpa using hb
    go_enter Try.func12, Try.ntmps12
    go_wp2_with fail
    refine (lBig ao l.length cap hn _).mono ?_
    rintro e _ ⟨rfl, rfl⟩
    go_wp2_with fail
    refine (dDrawApplyGate ao l cap (by omega) _ h).mono ?_
    rintro e w1 ⟨⟨gk, ga, gb, gc⟩, v, p, rfl, hp8, hS, hb1⟩
    have hs1 := hb1.size
    obtain ⟨vo, vc, rfl, hvR, hvc, _⟩ := hS.read
    clear hS h
    have hl1 := applyG_len' (g := ⟨gk, ga, gb, gc⟩) (v := p) (by omega)
    have hno := applyG_none (g := ⟨gk, ga, gb, gc⟩) (v := p)
    have hun := applyG_undo (g := ⟨gk, ga, gb, gc⟩) (v := p)
    have hga := gateM_apply (g := ⟨gk, ga, gb, gc⟩) (v := p)
    have hok : (applyG ⟨gk, ga, gb, gc⟩ p).2 = true → GT.ok ⟨gk, ga, gb, gc⟩ (qc p.length) = true := fun h => (applyG_parts h).2.1
    have hI := fun w h => iApplyGate ⟨gk, ga, gb, gc⟩ vo p vc (by omega) w h
    have hS := fun w h => sApplyGate ⟨gk, ga, gb, gc⟩ vo p vc (by omega) w h
    obtain ⟨R1, R2, hR⟩ : ∃ R1 R2, applyG ⟨gk, ga, gb, gc⟩ p = (R1, R2) := ⟨_, _, rfl⟩
    rw [hR] at hl1 hno hun hga hI hS hok
    dsimp only at hl1 hno hun hga hI hS hok
    clear hR
    have HI := Lib.hid hI
    have HS := Lib.hid hS
    have HNO := Lib.hid hno
    have HUN := Lib.hid hun
    have HGA := Lib.hid hga
    have HOK := Lib.hid hok
    have HL1 := Lib.hid hl1
    clear hI hS hno hun hga hok hl1
    go_wp2_with fail
    refine calls_gen fun W hW => ?_
    have hB : Blk W w1.heap.size [.int .i64 gk, .int .i64 ga, .int .i64 gb, .int .i64 gc] 59 := by
      rw [hW]
      exact Blk.new' (w := w1) _ _ rfl
    have hbW : Below w1.heap.size w1 W := by rw [hW]; (repeat (first | with_reducible exact Below.refl _ _ | with_reducible assumption | with_reducible refine Below.setCell ?_ (by first | omega | (simp; done) | (simp; omega)) _ | with_reducible refine Below.alloc ?_ (by first | omega | (simp; done) | (simp; omega)) _ | with_reducible refine Below.drew ?_ | with_reducible refine belowDrewN ?_ _ | with_reducible refine Below.trans ?_ (Below.mono (by assumption) (by first | omega | (simp; done) | (simp; omega)))))
    clear hW
    have hsW := hbW.size
    have hvW := hvR.below hbW
    refine (HI.out W hvW).mono ?_
    rintro e w2 ⟨x, rfl, hx, hb2⟩
    have hs2 := hb2.size
    obtain ⟨xo, xc, rfl, hxR, _, _⟩ := hx.read
    have hB2 := hB.below hb2 hB.lt
    obtain ⟨cB, fB, sB⟩ := hB2.facts
    clear hx HI
    go_wp2_with fail
    refine (HS.out w2 (hvW.below hb2)).mono ?_
    rintro e w3 ⟨y, rfl, hy, hb3⟩
    have hs3 := hb3.size
    obtain ⟨yo, yc, rfl, hyR, _, _⟩ := hy.read
    have hne : (R2 != R2) = false := by cases R2 <;> rfl
    clear hy HS cB fB
    go_wp2_with fail
    refine (sEqualState xo yo R1 R1 xc yc (by have := HL1.out; omega) (by have := HL1.out; omega) _ (hxR.below hb3) hyR).mono ?_
    rintro e w4 ⟨rfl, hb4⟩
    have hs4 := hb4.size
    rw [decide_eq_true rfl]
    have hb24 : Below w2.heap.size w2 w4 := hb3.trans (hb4.mono hs3)
    have hbW4 : Below W.heap.size W w4 := hb2.trans (hb24.mono hs2)
    have hxR4 := hxR.below hb24
    have hvR4 := hvW.below hbW4
    have hB4 := hB.below hbW4 hB.lt
    have hb04 : Below w.heap.size w w4 := (hb1.trans (hbW.mono hs1)).trans (hbW4.mono (by omega))
    clear hb1 hb2 hb3 hb4 hb24 hbW hbW4 hxR hvR hvW hyR hB hB2
    rcases R2 with _ | _
    · have hz := HNO.out rfl
      subst hz
      go_wp2
      go_ret
      exact ⟨rfl, hb04⟩
    · obtain ⟨cB, fB, sB⟩ := hB4.facts
      go_wp2_with fail
      refine (iInverseGate ⟨gk, ga, gb, gc⟩ _).mono ?_
      rintro e w5 ⟨rfl, hb5⟩
      have hs5 := hb5.size
      have hxR5 := hxR4.below hb5
      have hK1 := applyG_len' (g := GT.inv ⟨gk, ga, gb, gc⟩) (v := R1) HL1.out
      have hK := iApplyGate (GT.inv ⟨gk, ga, gb, gc⟩) xo R1 xc (by have := HL1.out; omega) w5 hxR5
      have hu := HUN.out trivial
      obtain ⟨K1, K2, hKK⟩ : ∃ K1 K2, applyG (GT.inv ⟨gk, ga, gb, gc⟩) R1 = (K1, K2) := ⟨_, _, rfl⟩
      rw [hKK] at hK1 hK hu
      dsimp only at hK1 hK hu
      clear hKK HUN cB fB
      go_wp2_with fail
      refine hK.mono ?_
      rintro e w6 ⟨x, rfl, hx, hb6⟩
      have hs6 := hb6.size
      obtain ⟨ko, kc, rfl, hkR, _, _⟩ := hx.read
      have hb46 : Below w4.heap.size w4 w6 := hb5.trans (hb6.mono hs5)
      have hxR6 := hxR4.below hb46
      have hvR6 := hvR4.below hb46
      have hB6 := hB4.below hb46 hB4.lt
      have hb06 : Below w.heap.size w w6 := hb04.trans (hb46.mono (by have := hb04.size; omega))
      clear hx hK hb5 hb6 hb46 hxR5 hxR4 hvR4 hB4 hb04
      have hg := HOK.out trivial
      have hM := fun w => iGateMatrix ⟨gk, ga, gb, gc⟩ ((qc p.length : Nat) : Int) w
      have hszM := gateM_szM hg
      have hgm : (gateM ⟨gk, ga, gb, gc⟩ ((qc p.length : Nat) : Int)).2 = true := by rw [gateM, if_pos hg]
      have hga := HGA.out trivial
      obtain ⟨M1, M2, hMM⟩ : ∃ M1 M2, gateM ⟨gk, ga, gb, gc⟩ ((qc p.length : Nat) : Int) = (M1, M2) := ⟨_, _, rfl⟩
      rw [hMM] at hM hszM hgm hga
      dsimp only at hM hszM hgm hga
      subst hgm
      clear hMM HOK HGA hg
      have HM := Lib.hid hM
      clear hM
      go_upto_region 11 with fail
      go_cut [11, 12] (fun y z wx => ∃ (mo : Option Addr) (mc : Nat), y = .slice mo M1.length mc ∧ z = .bool true ∧ MtR wx mo M1 ∧ Below w6.heap.size w6 wx)
      case first =>
        obtain ⟨cB, fB, sB⟩ := hB6.facts
        go_region_with (first
          | (go_at_call 70; refine (sQubitCount vo p.length vc (by omega) _).mono ?_; rintro e w7 ⟨rfl, rfl⟩)
          | (go_at_call 53; refine (HM.out _).mono ?_; rintro e w8 ⟨x, rfl, hx, hb8⟩; obtain ⟨mo, mc, rfl, hmR, _, _⟩ := hx.read; clear hx))
        all_goals go_wp2_with fail
        all_goals go_meet
        all_goals exact ⟨mo, mc, rfl, rfl, hmR, by (repeat (first | with_reducible exact Below.refl _ _ | with_reducible assumption | with_reducible refine Below.setCell ?_ (by first | omega | (simp; done) | (simp; omega)) _ | with_reducible refine Below.alloc ?_ (by first | omega | (simp; done) | (simp; omega)) _ | with_reducible refine Below.drew ?_ | with_reducible refine belowDrewN ?_ _ | with_reducible refine Below.trans ?_ (Below.mono (by assumption) (by first | omega | (simp; done) | (simp; omega)))))⟩
      case rest =>
        obtain ⟨mo, mc, rfl, rfl, hmR, hb9⟩ := hcut
        have hs9 := hb9.size
        have hxR9 := hxR6.below hb9
        have hvR9 := hvR6.below hb9
        have hkR9 := hkR.below hb9
        have hb09 : Below w.heap.size w wc := hb06.trans (hb9.mono (by have := hb06.size; omega))
        clear hxR6 hvR6 hkR hb9 hb06 hB6
        have hY := iApplyMatrix mo vo M1 p mc vc hszM (by omega) wc hmR hvR9
        have hY1 := applyM_len' (m := M1) (v := p) hszM.1
        obtain ⟨Y1, Y2, hYY⟩ : ∃ Y1 Y2, applyM M1 p = (Y1, Y2) := ⟨_, _, rfl⟩
        rw [hYY] at hY hY1 hga
        dsimp only at hY hY1 hga
        clear hYY
        have HU := Lib.hid hu
        have HGA := Lib.hid hga
        clear hu hga
        go_wp2_with fail
        refine hY.mono ?_
        rintro e w10 ⟨y, rfl, hy, hb10⟩
        have hs10 := hb10.size
        obtain ⟨yo', yc', rfl, hyR, _, _⟩ := hy.read
        have hxR10 := hxR9.below hb10
        have hvR10 := hvR9.below hb10
        have hkR10 := hkR9.below hb10
        have hb010 : Below w.heap.size w w10 := hb09.trans (hb10.mono (by have := hb09.size; omega))
        have hs010 := hb010.size
        clear hy hY hxR9 hvR9 hkR9 hb10 hb09 hmR
        rcases K2 with _ | _ <;> rcases Y2 with _ | _
        · go_wp2
          go_ret
          exact ⟨rfl, hb010⟩
        · have e := HGA.out rfl
          subst e
          go_wp2_with fail
          refine (sEqualState yo' xo Y1 Y1 yc' xc (by omega) (by omega) _ hyR hxR10).mono ?_
          rintro e w11 ⟨rfl, hb11⟩
          rw [decide_eq_true rfl]
          go_wp2
          go_ret
          exact ⟨rfl, hb010.trans (hb11.mono hs010)⟩
        · have e := HU.out rfl
          subst e
          go_wp2_with fail
          refine (sEqualState ko vo K1 K1 kc vc (by omega) (by omega) _ hkR10 hvR10).mono ?_
          rintro e w11 ⟨rfl, hb11⟩
          rw [decide_eq_true rfl]
          go_wp2
          go_ret
          exact ⟨rfl, hb010.trans (hb11.mono hs010)⟩
        · have e := HU.out rfl
          subst e
          have e := HGA.out rfl
          subst e
          go_wp2_with fail
          refine (sEqualState ko vo K1 K1 kc vc (by omega) (by omega) _ hkR10 hvR10).mono ?_
          rintro e w11 ⟨rfl, hb11⟩
          rw [decide_eq_true rfl]
          have hs11 := hb11.size
          have hyR11 := hyR.below hb11
          have hxR11 := hxR10.below hb11
          have hb011 := hb010.trans (hb11.mono hs010)
          clear hyR hxR10 hkR10 hvR10 hb11
          go_wp2_with fail
          refine (sEqualState yo' xo Y1 Y1 yc' xc (by omega) (by omega) _ hyR11 hxR11).mono ?_
          rintro e w12 ⟨rfl, hb12⟩
          rw [decide_eq_true rfl]
          go_wp2
          go_ret
          exact ⟨rfl, hb011.trans (hb12.mono (by omega))⟩

end Go.Proofs.Yteckhaafdojoeaa
