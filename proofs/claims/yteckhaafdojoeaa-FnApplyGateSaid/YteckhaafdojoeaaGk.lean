/- Draws: states (l6Vec, l6Bent). · Draws: a bent state (l6Bent). · Draws: gates (l9On, l9Gate, l9Bent). · Draws: gates (l9Gate, l9Bent). · Draws: circuits (l11Right). · Draws: DrawApplyGate, DrawApplyGates. · The laws' number out of a code (at0); slices of a row of gates. · Plain laws of rows of gates: split, undone, against the matrix. -/
import Derived.Test.YteckhaafdojoeaaGj
import Derived.Test.YteckhaafdojoeaaGg
import Derived.Deep.AppendLies
import Derived.Deep.RegionLaw
import Derived.Deep.DeepCutAuto
import Derived.Test.YteckhaafdojoeaaGf
import Derived.Test.YteckhaafdojoeaaGi
/-! D5: Draws: states (l6Vec, l6Bent). -/
namespace Go.Proofs.Yteckhaafdojoeaa
open Go.RowKit BigFrame

/-- A draw's outcome: a state. -/
def DS (w : World) (c : Nat) (P : List DO → Prop) (e : Ending) (w' : World) : Prop := ∃ v l, e = .returned v ∧ P l ∧ OwnS w' w.heap.size v l ∧ Dr w c w'
theorem OwnS.dr {w w' : World} {cu base : Nat} {v : Value} {l : List DO} (h : OwnS w base v l) (hd : Dr w cu w') (hc : cu < base) : OwnS w' base v l :=
  h.frame fun g h1 h2 => hd.2.block g h2 (by simp; omega)

set_option maxRecDepth 100000 in
set_option maxHeartbeats 8000000 in
theorem dVec (c n : Nat) (h1 : 1 ≤ n) (h4 : n ≤ 4) (w : World) (h : Cur w c) :
    Calls Try.prog 140 #[.pointer (some ⟨c, 0, none⟩), .int .i64 n] w (DS w c (fun l => l.length = 2 ^ n)) := by
  have hc := h.lt
  obtain ⟨iD, hiD, hzD0, hzD1, hzD2⟩ := info_parts infoD
  obtain ⟨N, hN⟩ : ∃ N, 2 ^ n = N := ⟨_, rfl⟩
  have hN16 : N ≤ 16 := by rw [← hN]; exact two_le16 h4
  have hw := wrap_pow n (by omega)
  rw [hN] at hw ⊢
  clear hN
  go_enter Try.func140, Try.ntmps140
  go_wp2
  have hS0 : OwnS (w.alloc (.cells #[] TD)) w.heap.size (.slice (some ⟨w.heap.size, 0, none⟩) 0 0) [] := OwnS.empty' rfl (Nat.le_refl _)
  have hd0 : Dr w c (w.alloc (.cells #[] TD)) := (Dr.refl h).step hc (by (repeat (first | with_reducible exact Below.refl _ _ | with_reducible assumption | with_reducible refine Below.setCell ?_ (by first | omega | (simp; done) | (simp; omega)) _ | with_reducible refine Below.alloc ?_ (by first | omega | (simp; done) | (simp; omega)) _ | with_reducible refine Below.drew ?_ | with_reducible refine belowDrewN ?_ _ | with_reducible refine Below.trans ?_ (Below.mono (by assumption) (by first | omega | (simp; done) | (simp; omega))))))
  go_loopw [5, 6] (fun y z wr => ∃ (j : Nat) (l : List DO), z = .int .i64 j ∧ j ≤ N ∧ Hid (l.length = j) ∧ OwnS wr w.heap.size y l ∧ Dr w c wr) (fun _ z _ => N - (intOf z).toNat)
  case atStart => exact ⟨0, [], rfl, Nat.zero_le _, rfl, hS0, hd0⟩
  case round =>
    obtain ⟨j, l, rfl, j0, HL, hS, hd⟩ := hrel
    have hs := hd.size
    obtain ⟨yo, yc, rfl, _, _, _⟩ := hS.read
    have hcr : c < wr.heap.size := hd.1.lt
    by_cases hj : j < N
    · rw [HL.out]
      go_wp2_with fail
      refine calls_gen fun W hW => ?_
      have hX : Blk W wr.heap.size [.int .i64 0, .int .i64 0, .int .i64 0, .int .i64 0, .int .i64 0] 114 := by rw [hW]; exact Blk.new' _ _ rfl
      have hdW : Dr wr c W := (Dr.refl hd.1).step hcr (by rw [hW]; (repeat (first | with_reducible exact Below.refl _ _ | with_reducible assumption | with_reducible refine Below.setCell ?_ (by first | omega | (simp; done) | (simp; omega)) _ | with_reducible refine Below.alloc ?_ (by first | omega | (simp; done) | (simp; omega)) _ | with_reducible refine Below.drew ?_ | with_reducible refine belowDrewN ?_ _ | with_reducible refine Below.trans ?_ (Below.mono (by assumption) (by first | omega | (simp; done) | (simp; omega))))))
      have hXc : wr.heap.size ≠ c := by omega
      clear hW
      refine (dOnce c 2 (by decide) _ hdW.1).mono ?_
      rintro e w1 ⟨b, rfl, hd1⟩
      have hX1 := Dr.blk hd1 hX hXc
      have h1' : Dr wr c w1 := Dr.trans hdW hd1
      clear hd1 hdW hX
      rcases b with _ | _
      · have hS1 : w1.ownsRow w.heap.size TD 5 (.slice yo l.length yc) l.length (cellsD l) := hS.dr h1' hc
        rw [HL.out] at hS1
        have h01 := Dr.trans hd h1'
        have hs1 := Dr.size h01
        obtain ⟨cX, fX, sX⟩ := hX1.facts
        go_wp2_with (at_builtin; refine wpList_append_own _ rfl _ _ 56 rfl w.heap.size TD iD _ 5 40 Try.underlying56 hiD hzD0 hzD1 hzD2 rfl (by decide) _ _ _ rfl (World.ownsRow.alloc hS1 _) ⟨w1.heap.size, 0, none⟩ 1 1 (dcells ⟨⟨0, 0, 0, 0⟩, 0⟩) rfl rfl ?c1 ?c2 ?c3 ?c4 ?c5 ?_)
        case c1 => exact at_new _ (dcells ⟨⟨0, 0, 0, 0⟩, 0⟩) _
        case c2 => exact dcells_one _
        case c3 => unfold maxLen; omega
        case c4 => omega
        case c5 => simp; omega
        intro v' w' hown' hgrow _
        have hS2 : OwnS w' w.heap.size v' (l ++ [⟨⟨0, 0, 0, 0⟩, 0⟩]) := OwnS.snoc (by rw [HL.out]; exact hown')
        have hbb : Below w.heap.size w1 w' := ((Below.refl _ _).alloc (by omega) _).grown hgrow (by simp; omega) fun g hg => (World.ownsRow.lt hS1 g hg).1
        have hD := h01.step hc hbb
        clear hown' hgrow hS1 hbb h01 h1' hX1 cX fX sX
        go_wp2
        go_roundw
        case rel => exact ⟨j + 1, _, by go_num, by omega, by simp only [Hid, List.length_append, List.length_cons, List.length_nil, HL.out], hS2, hD⟩
        case measure => simp [intOf]; omega
      · go_wp2_with fail
        refine (dDw c _ h1'.1).mono ?_
        rintro e w2 ⟨x, rfl, hd2⟩
        have hX2 := Dr.blk hd2 hX1 hXc
        have h2' : Dr wr c w2 := Dr.trans h1' hd2
        have h02 := Dr.trans hd h2'
        have hs2 := Dr.size h02
        have hS1 : (((((w2.setCell ⟨wr.heap.size, 0, none⟩ (.int .i64 x.n.a)).setCell ⟨wr.heap.size, 1, none⟩ (.int .i64 x.n.b)).setCell ⟨wr.heap.size, 2, none⟩ (.int .i64 x.n.c)).setCell ⟨wr.heap.size, 3, none⟩ (.int .i64 x.n.d)).setCell ⟨wr.heap.size, 4, none⟩ (.int .i64 x.e)).ownsRow w.heap.size TD 5 (.slice yo l.length yc) l.length (cellsD l) :=
          OwnS.frame (w' := (((((w2.setCell ⟨wr.heap.size, 0, none⟩ (.int .i64 x.n.a)).setCell ⟨wr.heap.size, 1, none⟩ (.int .i64 x.n.b)).setCell ⟨wr.heap.size, 2, none⟩ (.int .i64 x.n.c)).setCell ⟨wr.heap.size, 3, none⟩ (.int .i64 x.n.d)).setCell ⟨wr.heap.size, 4, none⟩ (.int .i64 x.e))) hS (fun g h1 h2 => by
            have hne : g ≠ wr.heap.size := by omega
            rw [Below.heap_setCell _ _ _ _ hne, Below.heap_setCell _ _ _ _ hne, Below.heap_setCell _ _ _ _ hne, Below.heap_setCell _ _ _ _ hne, Below.heap_setCell _ _ _ _ hne, h2'.2.block g h2 (by simp; omega)])
        rw [HL.out] at hS1
        obtain ⟨cX, fX, sX⟩ := hX2.facts
        go_wp2_with (at_builtin; refine wpList_append_own _ rfl _ _ 56 rfl w.heap.size TD iD _ 5 40 Try.underlying56 hiD hzD0 hzD1 hzD2 rfl (by decide) _ _ _ rfl (World.ownsRow.alloc hS1 _) ⟨w2.heap.size, 0, none⟩ 1 1 (dcells x) rfl rfl ?c1 ?c2 ?c3 ?c4 ?c5 ?_)
        case c1 =>
          intro k u hu
          have hB : Blk ((((((w2.setCell ⟨wr.heap.size, 0, none⟩ (.int .i64 x.n.a)).setCell ⟨wr.heap.size, 1, none⟩ (.int .i64 x.n.b)).setCell ⟨wr.heap.size, 2, none⟩ (.int .i64 x.n.c)).setCell ⟨wr.heap.size, 3, none⟩ (.int .i64 x.n.d)).setCell ⟨wr.heap.size, 4, none⟩ (.int .i64 x.e)).alloc (.cells #[.int .i64 x.n.a, .int .i64 x.n.b, .int .i64 x.n.c, .int .i64 x.n.d, .int .i64 x.e] TD)) w2.heap.size (dcells x) TD := Blk.new' _ _ (by simp)
          rw [Addr.add_lit, Nat.zero_add, hB.cell k]
          exact hu
        case c2 => exact dcells_one _
        case c3 => unfold maxLen; omega
        case c4 => omega
        case c5 => simp; omega
        intro v' w' hown' hgrow _
        have hS2 : OwnS w' w.heap.size v' (l ++ [x]) := OwnS.snoc (by rw [HL.out]; exact hown')
        have hbb : Below w.heap.size w2 w' := (show Below w.heap.size w2 _ by (repeat (first | with_reducible exact Below.refl _ _ | with_reducible assumption | with_reducible refine Below.setCell ?_ (by first | omega | (simp; done) | (simp; omega)) _ | with_reducible refine Below.alloc ?_ (by first | omega | (simp; done) | (simp; omega)) _ | with_reducible refine Below.drew ?_ | with_reducible refine belowDrewN ?_ _ | with_reducible refine Below.trans ?_ (Below.mono (by assumption) (by first | omega | (simp; done) | (simp; omega)))))).grown hgrow (by simp; omega) fun g hg => (World.ownsRow.lt hS1 g hg).1
        have hD := h02.step hc hbb
        clear hown' hgrow hS1 hbb h02 h2' hd2 hX2 cX fX sX h1' hX1
        go_wp2
        go_roundw
        case rel => exact ⟨j + 1, _, by go_num, by omega, by simp only [Hid, List.length_append, List.length_cons, List.length_nil, HL.out], hS2, hD⟩
        case measure => simp [intOf]; omega
    · have hjn : j = N := by omega
      subst hjn
      go_wp2
      go_ret
      exact ⟨_, l, rfl, HL.out, hS, hd⟩

end Go.Proofs.Yteckhaafdojoeaa

/-! D6: Draws: a bent state (l6Bent). -/
namespace Go.Proofs.Yteckhaafdojoeaa
open Go.RowKit BigFrame

theorem dcells_len (x : DO) : (dcells x).length = 5 := rfl
theorem OwnS.take {w : World} {base g n cap : Nat} {l : List DO} (h : OwnS w base (.slice (some ⟨g, 0, none⟩) n cap) l) {k : Nat} (hk : k ≤ l.length) :
    OwnS w base (.slice (some ⟨g, 0, none⟩) k cap) (l.take k) := OwnF.take (c := dcells) dcells_len h hk

set_option maxRecDepth 100000 in
set_option maxHeartbeats 8000000 in
theorem dVecBent (c : Nat) (w : World) (h : Cur w c) :
    Calls Try.prog 141 #[.pointer (some ⟨c, 0, none⟩)] w (DS w c (fun l => l.length ≤ 8)) := by
  have hc := h.lt
  go_enter Try.func141, Try.ntmps141
  go_wp2_with fail
  refine (dBelow c 3 (by decide) _ h).mono ?_
  rintro e w1 ⟨x, ⟨x0, x1, _⟩, rfl, hd1⟩
  have hx := x1 (by decide)
  obtain ⟨n, hn⟩ : ∃ n : Nat, (1 : Int) + x = n := ⟨(1 + x).toNat, by omega⟩
  have hn1 : 1 ≤ n := by omega
  have hn4 : n ≤ 3 := by omega
  obtain ⟨N, hN⟩ : ∃ N, 2 ^ n = N := ⟨_, rfl⟩
  have hN8 : 2 ≤ N ∧ N ≤ 8 := by
    have hcase : n = 1 ∨ n = 2 ∨ n = 3 := by omega
    rcases hcase with rfl | rfl | rfl <;> subst hN <;> decide
  have HN := Lib.hid hn
  clear x1 hn
  go_wp2_with fail
  rw [HN.out]
  refine (dVec c n hn1 (by omega) _ hd1.1).mono ?_
  rintro e w2 ⟨v, p, rfl, hpl, hS, hd2⟩
  rw [hN] at hpl
  have hs2 := Dr.size hd1
  have h2 := Dr.trans hd1 hd2
  have hS2 := hS.mono hs2
  obtain ⟨vo, vc, rfl, _, hvc1, hvc2⟩ := hS2.read
  obtain ⟨g, rfl, hgb, hgs⟩ := hS2.block (by omega)
  have hS3 := hS2
  rw [hpl] at hS3 hvc1 ⊢
  have HPL := Lib.hid hpl
  clear hpl hd1 hd2 hS HN hN
  go_wp2_with fail
  refine (dBelow c 8 (by decide) _ h2.1).mono ?_
  rintro e w3 ⟨k, ⟨k0, k1, _⟩, rfl, hd3⟩
  have hk := k1 (by decide)
  have hS4 := hS3.dr hd3 hc
  have h3 := Dr.trans h2 hd3
  have hs3 := Dr.size hd3
  have hgs3 : g < w3.heap.size := by omega
  clear hd3 hS3 hS2 h2 k1
  by_cases hk0 : k = 0
  · subst hk0
    go_wp2_with fail
    refine (dBelow c N (by omega) _ h3.1).mono ?_
    rintro e w4 ⟨j, ⟨j0, j1, _⟩, rfl, hd4⟩
    have hj := j1 (by omega)
    obtain ⟨j, rfl⟩ := Int.eq_ofNat_of_zero_le j0
    have hS5 := hS4.dr hd4 hc
    have h4 := Dr.trans h3 hd4
    have hs4 := Dr.size hd4
    clear j1 hd4 hS4 h3
    go_wp2_with fail
    refine (dBent c _ h4.1).mono ?_
    rintro e w5 ⟨q, rfl, hd5⟩
    have h5 := Dr.trans h4 hd5
    have hS6 := hS5.dr hd5 hc
    have hs5 := Dr.size hd5
    have hjp : j < p.length := by rw [HPL.out]; omega
    have cj := hS6.cells hjp
    have fz := hS6.frozen
    have HS7 := Lib.hid (hS6.set j hjp q)
    have hl7 : Hid ((p.set j q).length ≤ 8) := by simp only [Hid, List.length_set, HPL.out]; omega
    have HD := Lib.hid (h5.step (w2 := ((((w5.setCell ⟨g, j * 5, none⟩ (.int .i64 q.n.a)).setCell ⟨g, j * 5 + 1, none⟩ (.int .i64 q.n.b)).setCell ⟨g, j * 5 + 2, none⟩ (.int .i64 q.n.c)).setCell ⟨g, j * 5 + 3, none⟩ (.int .i64 q.n.d)).setCell ⟨g, j * 5 + 4, none⟩ (.int .i64 q.e)) hc (by (repeat (first | with_reducible exact Below.refl _ _ | with_reducible assumption | with_reducible refine Below.setCell ?_ (by first | omega | (simp; done) | (simp; omega)) _ | with_reducible refine Below.alloc ?_ (by first | omega | (simp; done) | (simp; omega)) _ | with_reducible refine Below.drew ?_ | with_reducible refine belowDrewN ?_ _ | with_reducible refine Below.trans ?_ (Below.mono (by assumption) (by first | omega | (simp; done) | (simp; omega)))))))
    have hgs5 : g < w5.heap.size := by omega
    obtain ⟨z1, z2, z3, z4, z5⟩ := cj
    clear h4 hd5 hS5 hS6 h5
    go_wp2
    go_ret
    exact ⟨_, _, rfl, hl7.out, HS7.out, HD.out⟩
  · by_cases hk1 : k = 1
    · subst hk1
      go_wp2_with fail
      refine (dBelow c N (by omega) _ h3.1).mono ?_
      rintro e w4 ⟨j, ⟨j0, j1, _⟩, rfl, hd4⟩
      have hj := j1 (by omega)
      obtain ⟨j, rfl⟩ := Int.eq_ofNat_of_zero_le j0
      have hS5 := hS4.dr hd4 hc
      have h4 := Dr.trans h3 hd4
      have hjp : j ≤ p.length := by rw [HPL.out]; omega
      have HS6 := Lib.hid (hS5.take hjp)
      have hl7 : Hid ((p.take j).length ≤ 8) := by simp only [Hid, List.length_take, HPL.out]; omega
      have hjc : j ≤ vc := by omega
      clear j1 hd4 hS4 h3 hS5
      go_wp2
      go_ret
      exact ⟨_, _, rfl, hl7.out, HS6.out, h4⟩
    · have e0 : (k == 0) = false := by simpa using hk0
      have e1 : (k == 1) = false := by simpa using hk1
      have hl7 : Hid (p.length ≤ 8) := by simp only [Hid, HPL.out]; omega
      go_wp2
      go_ret
      exact ⟨_, p, rfl, hl7.out, hS4, h3⟩

end Go.Proofs.Yteckhaafdojoeaa

/-! D7: Draws: gates (l9On, l9Gate, l9Bent). -/
namespace Go.Proofs.Yteckhaafdojoeaa
open Go.RowKit BigFrame

/-- A draw's outcome: a gate. -/
def DG (w : World) (c : Nat) (P : GT → Prop) (e : Ending) (w' : World) : Prop := ∃ g : GT, e = .returned (Gv g) ∧ P g ∧ Dr w c w'

set_option maxRecDepth 100000 in
set_option maxHeartbeats 8000000 in
theorem dOn (c : Nat) (k : Int) (n : Nat) (h1 : 1 ≤ n) (h4 : n ≤ 4) (ha : ar k ≤ n) (w : World) (h : Cur w c) :
    Calls Try.prog 191 #[.pointer (some ⟨c, 0, none⟩), .int .i64 k, .int .i64 n] w (DG w c (fun g => g.k = k)) := by
  have hc := h.lt
  have ha3 := ar_cases k
  obtain ⟨L, hL⟩ : ∃ L : Nat, ar k = L := ⟨(ar k).toNat, by omega⟩
  have hA : ∀ w, Calls Try.prog 188 #[.int .i64 k] w fun e w' => e = .returned (.int .i64 L) ∧ w = w' := fun w => by have := sArity k w; rwa [hL] at this
  have hLn : L ≤ n := by omega
  have hL3 : L ≤ 3 := by omega
  clear ha ha3 hL
  go_enter Try.func191, Try.ntmps191
  go_wp2_with fail
  refine calls_gen fun W hW => ?_
  have hB : Blk W w.heap.size [.int .i64 0, .int .i64 0, .int .i64 0, .int .i64 0] 59 := by rw [hW]; exact Blk.new' _ _ rfl
  have hd : Dr w c W := (Dr.refl h).step hc (by rw [hW]; (repeat (first | with_reducible exact Below.refl _ _ | with_reducible assumption | with_reducible refine Below.setCell ?_ (by first | omega | (simp; done) | (simp; omega)) _ | with_reducible refine Below.alloc ?_ (by first | omega | (simp; done) | (simp; omega)) _ | with_reducible refine Below.drew ?_ | with_reducible refine belowDrewN ?_ _ | with_reducible refine Below.trans ?_ (Below.mono (by assumption) (by first | omega | (simp; done) | (simp; omega))))))
  have hne : w.heap.size ≠ c := by omega
  clear hW h
  refine (dPerm c n h1 h4 _ hd.1).mono ?_
  rintro e w1 ⟨v, p, rfl, hpl, hS, hd1⟩
  have hs1 := Dr.size hd
  have hB1 := Dr.blk hd1 hB hne
  have hd2 := Dr.trans hd hd1
  obtain ⟨vo, vc, rfl, hR, _, _⟩ := hS.read icells_len
  obtain ⟨g, rfl, hgb, hgs⟩ := hS.block (by omega)
  rw [hpl] at hS ⊢
  have q0 := hS.intAt (j := 0) (by omega)
  have q1 : 1 < L → w1.cell? ⟨g, 1, none⟩ = some (.int .i64 (p.getD 1 0)) := fun hL => by
    have := hS.intAt (j := 1) (by omega)
    rw [this, List.getD_eq_getElem?_getD, List.getElem?_eq_getElem (by omega)]
    rfl
  have q2 : 2 < L → w1.cell? ⟨g, 2, none⟩ = some (.int .i64 (p.getD 2 0)) := fun hL => by
    have := hS.intAt (j := 2) (by omega)
    rw [this, List.getD_eq_getElem?_getD, List.getElem?_eq_getElem (by omega)]
    rfl
  obtain ⟨cB, fB, sB⟩ := hB1.facts
  generalize p[0]'(by omega) = r0 at q0
  generalize p.getD 1 0 = r1 at q1
  generalize p.getD 2 0 = r2 at q2
  have hgB : g ≠ w.heap.size := by
    have := hB.lt
    omega
  clear hS hR hpl hd hd1 hB hB1
  have hcase : L ≤ 1 ∨ L = 2 ∨ L = 3 := by omega
  rcases hcase with hL1 | rfl | rfl
  · have e1 : decide ((1 : Int) < (L : Int)) = false := by simp; omega
    have e2 : decide ((2 : Int) < (L : Int)) = false := by simp; omega
    clear q1 q2
    go_wp2_with (go_at_call 188; refine (hA _).mono ?_; rintro e w' ⟨rfl, rfl⟩)
    exact bodyPost_ret (v := Gv ⟨k, r0, 0, 0⟩) (by simp [results, Try.results191, go_sem, *]) rfl ⟨_, rfl, rfl, hd2.step hc (by (repeat (first | with_reducible exact Below.refl _ _ | with_reducible assumption | with_reducible refine Below.setCell ?_ (by first | omega | (simp; done) | (simp; omega)) _ | with_reducible refine Below.alloc ?_ (by first | omega | (simp; done) | (simp; omega)) _ | with_reducible refine Below.drew ?_ | with_reducible refine belowDrewN ?_ _ | with_reducible refine Below.trans ?_ (Below.mono (by assumption) (by first | omega | (simp; done) | (simp; omega))))))⟩
  · have q1 := q1 (by decide)
    clear q2
    go_wp2_with (go_at_call 188; refine (hA _).mono ?_; rintro e w' ⟨rfl, rfl⟩)
    exact bodyPost_ret (v := Gv ⟨k, r0, r1, 0⟩) (by simp [results, Try.results191, go_sem, *]) rfl ⟨_, rfl, rfl, hd2.step hc (by (repeat (first | with_reducible exact Below.refl _ _ | with_reducible assumption | with_reducible refine Below.setCell ?_ (by first | omega | (simp; done) | (simp; omega)) _ | with_reducible refine Below.alloc ?_ (by first | omega | (simp; done) | (simp; omega)) _ | with_reducible refine Below.drew ?_ | with_reducible refine belowDrewN ?_ _ | with_reducible refine Below.trans ?_ (Below.mono (by assumption) (by first | omega | (simp; done) | (simp; omega))))))⟩
  · have q1 := q1 (by decide)
    have q2 := q2 (by decide)
    go_wp2_with (go_at_call 188; refine (hA _).mono ?_; rintro e w' ⟨rfl, rfl⟩)
    exact bodyPost_ret (v := Gv ⟨k, r0, r1, r2⟩) (by simp [results, Try.results191, go_sem, *]) rfl ⟨_, rfl, rfl, hd2.step hc (by (repeat (first | with_reducible exact Below.refl _ _ | with_reducible assumption | with_reducible refine Below.setCell ?_ (by first | omega | (simp; done) | (simp; omega)) _ | with_reducible refine Below.alloc ?_ (by first | omega | (simp; done) | (simp; omega)) _ | with_reducible refine Below.drew ?_ | with_reducible refine belowDrewN ?_ _ | with_reducible refine Below.trans ?_ (Below.mono (by assumption) (by first | omega | (simp; done) | (simp; omega))))))⟩

end Go.Proofs.Yteckhaafdojoeaa

/-! D8: Draws: gates (l9Gate, l9Bent). -/
namespace Go.Proofs.Yteckhaafdojoeaa
open Go.RowKit BigFrame

set_option maxRecDepth 100000 in
set_option maxHeartbeats 8000000 in
theorem dGate (c : Nat) (n : Nat) (h1 : 1 ≤ n) (h4 : n ≤ 4) (w : World) (h : Cur w c) :
    Calls Try.prog 160 #[.pointer (some ⟨c, 0, none⟩), .int .i64 n] w (DG w c (fun _ => True)) := by
  have hc := h.lt
  obtain ⟨M, hM, hM12⟩ : ∃ M : Int, ((w.alloc (.cells #[.int .i64 0, .int .i64 0, .int .i64 0, .int .i64 0] 59)).alloc (.cells #[.int .i64 0, .int .i64 8, .int .i64 11, .int .i64 12, .int .i64 12] 3)).cell? ⟨w.heap.size + 1, n, none⟩ = some (.int .i64 M) ∧ 8 ≤ M ∧ M ≤ 12 := by
    have hB := Blk.new' (w := w.alloc (.cells #[.int .i64 0, .int .i64 0, .int .i64 0, .int .i64 0] 59)) (b := w.heap.size + 1) [.int .i64 0, .int .i64 8, .int .i64 11, .int .i64 12, .int .i64 12] 3 (by simp)
    have hcase : n = 1 ∨ n = 2 ∨ n = 3 ∨ n = 4 := by omega
    rcases hcase with rfl | rfl | rfl | rfl <;> exact ⟨_, hB.cell _, by decide, by decide⟩
  go_enter Try.func160, Try.ntmps160
  go_wp2_with fail
  refine calls_gen fun W hW => ?_
  have hB : Blk W w.heap.size [.int .i64 0, .int .i64 0, .int .i64 0, .int .i64 0] 59 := by
    rw [hW]
    exact (Blk.new' (w := w) _ _ rfl).alloc _
  have hd : Dr w c W := (Dr.refl h).step hc (by rw [hW]; (repeat (first | with_reducible exact Below.refl _ _ | with_reducible assumption | with_reducible refine Below.setCell ?_ (by first | omega | (simp; done) | (simp; omega)) _ | with_reducible refine Below.alloc ?_ (by first | omega | (simp; done) | (simp; omega)) _ | with_reducible refine Below.drew ?_ | with_reducible refine belowDrewN ?_ _ | with_reducible refine Below.trans ?_ (Below.mono (by assumption) (by first | omega | (simp; done) | (simp; omega))))))
  have hne : w.heap.size ≠ c := by omega
  clear hW h hM
  refine (dBelow c M (by omega) _ hd.1).mono ?_
  rintro e w1 ⟨x, ⟨x0, x1, _⟩, rfl, hd1⟩
  have hx := x1 (by omega)
  have hB1 := Dr.blk hd1 hB hne
  have h1' := Dr.trans hd hd1
  clear x1 hd hd1 hB
  go_wp2_with fail
  refine (dOnce c 2 (by decide) _ h1'.1).mono ?_
  rintro e w2 ⟨b, rfl, hd2⟩
  have hB2 := Dr.blk hd2 hB1 hne
  have h2 := Dr.trans h1' hd2
  have hs2 := Dr.size h2
  clear hd2 h1' hB1
  rcases b with _ | _
  · obtain ⟨K, hK⟩ : ∃ K, 1 + x = K := ⟨_, rfl⟩
    have HK := Lib.hid hK
    clear hK
    go_wp2_with fail
    rw [HK.out]
    refine (sArity K _).mono ?_
    rintro e w3 ⟨rfl, rfl⟩
    by_cases hg : (n : Int) < ar K
    · go_wp2_with fail
      refine (dOn c 4 n h1 h4 (show (1 : Int) ≤ n by omega) _ h2.1).mono ?_
      rintro e w4 ⟨⟨gk, ga, gb, gc⟩, rfl, -, hd4⟩
      have hB4 := Dr.blk hd4 hB2 hne
      have h4 := Dr.trans h2 hd4
      obtain ⟨cB, fB, sB⟩ := hB4.facts
      clear hd4 h2 hB2
      go_wp2
      exact bodyPost_ret (v := Gv ⟨gk, ga, gb, gc⟩) (by simp [results, Try.results160, go_sem, *]) rfl ⟨_, rfl, trivial, h4.step hc (by (repeat (first | with_reducible exact Below.refl _ _ | with_reducible assumption | with_reducible refine Below.setCell ?_ (by first | omega | (simp; done) | (simp; omega)) _ | with_reducible refine Below.alloc ?_ (by first | omega | (simp; done) | (simp; omega)) _ | with_reducible refine Below.drew ?_ | with_reducible refine belowDrewN ?_ _ | with_reducible refine Below.trans ?_ (Below.mono (by assumption) (by first | omega | (simp; done) | (simp; omega))))))⟩
    · go_wp2_with fail
      refine (dOn c K n h1 h4 (by omega) _ h2.1).mono ?_
      rintro e w4 ⟨⟨gk, ga, gb, gc⟩, rfl, -, hd4⟩
      have hB4 := Dr.blk hd4 hB2 hne
      have h4 := Dr.trans h2 hd4
      obtain ⟨cB, fB, sB⟩ := hB4.facts
      clear hd4 h2 hB2
      go_wp2
      exact bodyPost_ret (v := Gv ⟨gk, ga, gb, gc⟩) (by simp [results, Try.results160, go_sem, *]) rfl ⟨_, rfl, trivial, h4.step hc (by (repeat (first | with_reducible exact Below.refl _ _ | with_reducible assumption | with_reducible refine Below.setCell ?_ (by first | omega | (simp; done) | (simp; omega)) _ | with_reducible refine Below.alloc ?_ (by first | omega | (simp; done) | (simp; omega)) _ | with_reducible refine Below.drew ?_ | with_reducible refine belowDrewN ?_ _ | with_reducible refine Below.trans ?_ (Below.mono (by assumption) (by first | omega | (simp; done) | (simp; omega))))))⟩
  · go_wp2_with fail
    refine (dPickNew c _ [4, 7, 5, 8, 9, 9, 9, 9] (by decide) (by decide) _ h2.1 _ _ rfl).mono ?_
    rintro e w3 ⟨K, -, rfl, hd3⟩
    have h3 := Dr.trans (h2.step hc (by (repeat (first | with_reducible exact Below.refl _ _ | with_reducible assumption | with_reducible refine Below.setCell ?_ (by first | omega | (simp; done) | (simp; omega)) _ | with_reducible refine Below.alloc ?_ (by first | omega | (simp; done) | (simp; omega)) _ | with_reducible refine Below.drew ?_ | with_reducible refine belowDrewN ?_ _ | with_reducible refine Below.trans ?_ (Below.mono (by assumption) (by first | omega | (simp; done) | (simp; omega))))))) hd3
    have hB3 := Dr.blk hd3 (hB2.alloc _) hne
    have hs3 := h3.size
    clear h2 hd3 hB2
    go_wp2_with fail
    refine (sArity K _).mono ?_
    rintro e w5 ⟨rfl, rfl⟩
    by_cases hg : (n : Int) < ar K
    · go_wp2_with fail
      refine (dOn c 4 n h1 h4 (show (1 : Int) ≤ n by omega) _ h3.1).mono ?_
      rintro e w4 ⟨⟨gk, ga, gb, gc⟩, rfl, -, hd4⟩
      have hB4 := Dr.blk hd4 hB3 hne
      have h4 := Dr.trans h3 hd4
      obtain ⟨cB, fB, sB⟩ := hB4.facts
      clear hd4 h3 hB3
      go_wp2
      exact bodyPost_ret (v := Gv ⟨gk, ga, gb, gc⟩) (by simp [results, Try.results160, go_sem, *]) rfl ⟨_, rfl, trivial, h4.step hc (by (repeat (first | with_reducible exact Below.refl _ _ | with_reducible assumption | with_reducible refine Below.setCell ?_ (by first | omega | (simp; done) | (simp; omega)) _ | with_reducible refine Below.alloc ?_ (by first | omega | (simp; done) | (simp; omega)) _ | with_reducible refine Below.drew ?_ | with_reducible refine belowDrewN ?_ _ | with_reducible refine Below.trans ?_ (Below.mono (by assumption) (by first | omega | (simp; done) | (simp; omega))))))⟩
    · go_wp2_with fail
      refine (dOn c K n h1 h4 (by omega) _ h3.1).mono ?_
      rintro e w4 ⟨⟨gk, ga, gb, gc⟩, rfl, -, hd4⟩
      have hB4 := Dr.blk hd4 hB3 hne
      have h4 := Dr.trans h3 hd4
      obtain ⟨cB, fB, sB⟩ := hB4.facts
      clear hd4 h3 hB3
      go_wp2
      exact bodyPost_ret (v := Gv ⟨gk, ga, gb, gc⟩) (by simp [results, Try.results160, go_sem, *]) rfl ⟨_, rfl, trivial, h4.step hc (by (repeat (first | with_reducible exact Below.refl _ _ | with_reducible assumption | with_reducible refine Below.setCell ?_ (by first | omega | (simp; done) | (simp; omega)) _ | with_reducible refine Below.alloc ?_ (by first | omega | (simp; done) | (simp; omega)) _ | with_reducible refine Below.drew ?_ | with_reducible refine belowDrewN ?_ _ | with_reducible refine Below.trans ?_ (Below.mono (by assumption) (by first | omega | (simp; done) | (simp; omega))))))⟩

set_option maxRecDepth 100000 in
set_option maxHeartbeats 8000000 in
theorem dGateBent (c : Nat) (n : Nat) (h1 : 1 ≤ n) (h4 : n ≤ 4) (w : World) (h : Cur w c) :
    Calls Try.prog 139 #[.pointer (some ⟨c, 0, none⟩), .int .i64 n] w (DG w c (fun _ => True)) := by
  have hc := h.lt
  go_enter Try.func139, Try.ntmps139
  go_wp2_with fail
  refine calls_gen fun W hW => ?_
  have hB : Blk W w.heap.size [.int .i64 0, .int .i64 0, .int .i64 0, .int .i64 0] 59 := by rw [hW]; exact Blk.new' (w := w) _ _ rfl
  have hd : Dr w c W := (Dr.refl h).step hc (by rw [hW]; (repeat (first | with_reducible exact Below.refl _ _ | with_reducible assumption | with_reducible refine Below.setCell ?_ (by first | omega | (simp; done) | (simp; omega)) _ | with_reducible refine Below.alloc ?_ (by first | omega | (simp; done) | (simp; omega)) _ | with_reducible refine Below.drew ?_ | with_reducible refine belowDrewN ?_ _ | with_reducible refine Below.trans ?_ (Below.mono (by assumption) (by first | omega | (simp; done) | (simp; omega))))))
  have hne : w.heap.size ≠ c := by omega
  clear hW h
  refine (dGate c n h1 h4 _ hd.1).mono ?_
  rintro e w1 ⟨⟨gk, ga, gb, gc⟩, rfl, -, hd1⟩
  have hB1 := Dr.blk hd1 hB hne
  have h1' := Dr.trans hd hd1
  have hs1 := Dr.size h1'
  have hcw1 : c ≠ w1.heap.size := by have := h1'.1.lt; omega
  have hsB := hB1.lt
  clear hd hd1 hB
  obtain ⟨cB, fB, sB⟩ := hB1.facts
  go_wp2_with fail
  refine calls_gen fun W hW => ?_
  have hG : Blk W w1.heap.size [.int .i64 gk, .int .i64 ga, .int .i64 gb, .int .i64 gc] 59 := by
    rw [hW]
    exact Blk.new' (w := w1) _ _ rfl
  have hB2 : Blk W w.heap.size [.int .i64 0, .int .i64 0, .int .i64 0, .int .i64 0] 59 := by
    rw [hW]
    exact hB1.alloc _
  have h2 : Dr w c W := h1'.step hc (by rw [hW]; (repeat (first | with_reducible exact Below.refl _ _ | with_reducible assumption | with_reducible refine Below.setCell ?_ (by first | omega | (simp; done) | (simp; omega)) _ | with_reducible refine Below.alloc ?_ (by first | omega | (simp; done) | (simp; omega)) _ | with_reducible refine Below.drew ?_ | with_reducible refine belowDrewN ?_ _ | with_reducible refine Below.trans ?_ (Below.mono (by assumption) (by first | omega | (simp; done) | (simp; omega))))))
  clear hW h1' hB1 cB fB sB
  refine (dBelow c 10 (by decide) _ h2.1).mono ?_
  rintro e w2 ⟨k, ⟨k0, k1, _⟩, rfl, hd3⟩
  have hk := k1 (by decide)
  have hG3 := Dr.blk hd3 hG (by omega)
  have hB3 := Dr.blk hd3 hB2 hne
  have h3 := Dr.trans h2 hd3
  have hs3 := Dr.size h3
  have hsG := hG3.lt
  clear hd3 hG hB2 h2 k1
  by_cases hk0 : k = 0
  · subst hk0
    go_wp2_with fail
    refine (dBelow c 15 (by decide) _ h3.1).mono ?_
    rintro e w3 ⟨q, ⟨q0, q1, _⟩, rfl, hd4⟩
    have hq := q1 (by decide)
    have hG4 := Dr.blk hd4 hG3 (by omega)
    have hB4 := Dr.blk hd4 hB3 hne
    have h4 := Dr.trans h3 hd4
    obtain ⟨cB, fB, sB⟩ := hB4.facts
    obtain ⟨cG, fG, sG⟩ := hG4.facts
    clear hd4 h3 hB3 hG3 q1
    go_wp2
    exact bodyPost_ret (v := Gv ⟨q - 1, ga, gb, gc⟩) (by simp [results, Try.results139, go_sem, *]) rfl ⟨_, rfl, trivial, h4.step hc (by (repeat (first | with_reducible exact Below.refl _ _ | with_reducible assumption | with_reducible refine Below.setCell ?_ (by first | omega | (simp; done) | (simp; omega)) _ | with_reducible refine Below.alloc ?_ (by first | omega | (simp; done) | (simp; omega)) _ | with_reducible refine Below.drew ?_ | with_reducible refine belowDrewN ?_ _ | with_reducible refine Below.trans ?_ (Below.mono (by assumption) (by first | omega | (simp; done) | (simp; omega))))))⟩
  · by_cases hk1 : k = 1
    · subst hk1
      obtain ⟨cB, fB, sB⟩ := hB3.facts
      obtain ⟨cG, fG, sG⟩ := hG3.facts
      go_wp2_with fail
      refine (dPickNew c _ [0, n, -1, gb] (by simp) (by simp) _ h3.1 _ _ rfl).mono ?_
      rintro e w3 ⟨q, -, rfl, hd4⟩
      have hG4 := Dr.blk hd4 (hG3.alloc _) (by omega)
      have hB4 := Dr.blk hd4 (hB3.alloc _) hne
      have h4 := Dr.trans (h3.step hc (by (repeat (first | with_reducible exact Below.refl _ _ | with_reducible assumption | with_reducible refine Below.setCell ?_ (by first | omega | (simp; done) | (simp; omega)) _ | with_reducible refine Below.alloc ?_ (by first | omega | (simp; done) | (simp; omega)) _ | with_reducible refine Below.drew ?_ | with_reducible refine belowDrewN ?_ _ | with_reducible refine Below.trans ?_ (Below.mono (by assumption) (by first | omega | (simp; done) | (simp; omega))))))) hd4
      clear hd4 h3 hB3 hG3 cB fB sB cG fG sG
      obtain ⟨cB, fB, sB⟩ := hB4.facts
      obtain ⟨cG, fG, sG⟩ := hG4.facts
      go_wp2
      exact bodyPost_ret (v := Gv ⟨gk, q, gb, gc⟩) (by simp [results, Try.results139, go_sem, *]) rfl ⟨_, rfl, trivial, h4.step hc (by (repeat (first | with_reducible exact Below.refl _ _ | with_reducible assumption | with_reducible refine Below.setCell ?_ (by first | omega | (simp; done) | (simp; omega)) _ | with_reducible refine Below.alloc ?_ (by first | omega | (simp; done) | (simp; omega)) _ | with_reducible refine Below.drew ?_ | with_reducible refine belowDrewN ?_ _ | with_reducible refine Below.trans ?_ (Below.mono (by assumption) (by first | omega | (simp; done) | (simp; omega))))))⟩
    · by_cases hk2 : k = 2
      · subst hk2
        obtain ⟨cB, fB, sB⟩ := hB3.facts
        obtain ⟨cG, fG, sG⟩ := hG3.facts
        go_wp2_with fail
        refine (dPickNew c _ [0, n, -1, ga] (by simp) (by simp) _ h3.1 _ _ rfl).mono ?_
        rintro e w3 ⟨q, -, rfl, hd4⟩
        have hG4 := Dr.blk hd4 (hG3.alloc _) (by omega)
        have hB4 := Dr.blk hd4 (hB3.alloc _) hne
        have h4 := Dr.trans (h3.step hc (by (repeat (first | with_reducible exact Below.refl _ _ | with_reducible assumption | with_reducible refine Below.setCell ?_ (by first | omega | (simp; done) | (simp; omega)) _ | with_reducible refine Below.alloc ?_ (by first | omega | (simp; done) | (simp; omega)) _ | with_reducible refine Below.drew ?_ | with_reducible refine belowDrewN ?_ _ | with_reducible refine Below.trans ?_ (Below.mono (by assumption) (by first | omega | (simp; done) | (simp; omega))))))) hd4
        clear hd4 h3 hB3 hG3 cB fB sB cG fG sG
        obtain ⟨cB, fB, sB⟩ := hB4.facts
        obtain ⟨cG, fG, sG⟩ := hG4.facts
        go_wp2
        exact bodyPost_ret (v := Gv ⟨gk, ga, q, gc⟩) (by simp [results, Try.results139, go_sem, *]) rfl ⟨_, rfl, trivial, h4.step hc (by (repeat (first | with_reducible exact Below.refl _ _ | with_reducible assumption | with_reducible refine Below.setCell ?_ (by first | omega | (simp; done) | (simp; omega)) _ | with_reducible refine Below.alloc ?_ (by first | omega | (simp; done) | (simp; omega)) _ | with_reducible refine Below.drew ?_ | with_reducible refine belowDrewN ?_ _ | with_reducible refine Below.trans ?_ (Below.mono (by assumption) (by first | omega | (simp; done) | (simp; omega))))))⟩
      · by_cases hk3 : k = 3
        · subst hk3
          obtain ⟨cB, fB, sB⟩ := hB3.facts
          obtain ⟨cG, fG, sG⟩ := hG3.facts
          go_wp2_with fail
          refine (dPickNew c _ [0, 1, n, -1] (by simp) (by simp) _ h3.1 _ _ rfl).mono ?_
          rintro e w3 ⟨q, -, rfl, hd4⟩
          have hG4 := Dr.blk hd4 (hG3.alloc _) (by omega)
          have hB4 := Dr.blk hd4 (hB3.alloc _) hne
          have h4 := Dr.trans (h3.step hc (by (repeat (first | with_reducible exact Below.refl _ _ | with_reducible assumption | with_reducible refine Below.setCell ?_ (by first | omega | (simp; done) | (simp; omega)) _ | with_reducible refine Below.alloc ?_ (by first | omega | (simp; done) | (simp; omega)) _ | with_reducible refine Below.drew ?_ | with_reducible refine belowDrewN ?_ _ | with_reducible refine Below.trans ?_ (Below.mono (by assumption) (by first | omega | (simp; done) | (simp; omega))))))) hd4
          clear hd4 h3 hB3 hG3 cB fB sB cG fG sG
          obtain ⟨cB, fB, sB⟩ := hB4.facts
          obtain ⟨cG, fG, sG⟩ := hG4.facts
          go_wp2
          exact bodyPost_ret (v := Gv ⟨gk, ga, gb, q⟩) (by simp [results, Try.results139, go_sem, *]) rfl ⟨_, rfl, trivial, h4.step hc (by (repeat (first | with_reducible exact Below.refl _ _ | with_reducible assumption | with_reducible refine Below.setCell ?_ (by first | omega | (simp; done) | (simp; omega)) _ | with_reducible refine Below.alloc ?_ (by first | omega | (simp; done) | (simp; omega)) _ | with_reducible refine Below.drew ?_ | with_reducible refine belowDrewN ?_ _ | with_reducible refine Below.trans ?_ (Below.mono (by assumption) (by first | omega | (simp; done) | (simp; omega))))))⟩
        · have e0 : (k == 0) = false := by simpa using hk0
          have e1 : (k == 1) = false := by simpa using hk1
          have e2 : (k == 2) = false := by simpa using hk2
          have e3 : (k == 3) = false := by simpa using hk3
          obtain ⟨cB, fB, sB⟩ := hB3.facts
          obtain ⟨cG, fG, sG⟩ := hG3.facts
          go_wp2
          exact bodyPost_ret (v := Gv ⟨gk, ga, gb, gc⟩) (by simp [results, Try.results139, go_sem, *]) rfl ⟨_, rfl, trivial, h3.step hc (by (repeat (first | with_reducible exact Below.refl _ _ | with_reducible assumption | with_reducible refine Below.setCell ?_ (by first | omega | (simp; done) | (simp; omega)) _ | with_reducible refine Below.alloc ?_ (by first | omega | (simp; done) | (simp; omega)) _ | with_reducible refine Below.drew ?_ | with_reducible refine belowDrewN ?_ _ | with_reducible refine Below.trans ?_ (Below.mono (by assumption) (by first | omega | (simp; done) | (simp; omega))))))⟩

end Go.Proofs.Yteckhaafdojoeaa

/-! D9: Draws: circuits (l11Right). -/
namespace Go.Proofs.Yteckhaafdojoeaa
open Go.RowKit BigFrame

/-- A draw's outcome: a circuit. -/
def DC (w : World) (c : Nat) (P : Int → List GT → Prop) (e : Ending) (w' : World) : Prop := ∃ n ao l cap, e = .returned (.agg #[.int .i64 n, .slice ao l.length cap]) ∧ P n l ∧ OwnG w' w.heap.size (.slice ao l.length cap) l ∧ Dr w c w'
theorem gcells_one (x : GT) : ∀ u ∈ gcells x, u.oneCell' = true := by simp [gcells, Value.oneCell']

set_option maxRecDepth 100000 in
set_option maxHeartbeats 8000000 in
theorem dRight (c : Nat) (n : Nat) (h1 : 1 ≤ n) (h4 : n ≤ 4) (most : Nat) (hm : most ≤ 100) (w : World) (h : Cur w c) :
    Calls Try.prog 111 #[.pointer (some ⟨c, 0, none⟩), .int .i64 n, .int .i64 most] w (DC w c (fun k l => k = n ∧ l.length ≤ most)) := by
  have hc := h.lt
  obtain ⟨iG, hiG, hzG0, hzG1, hzG2⟩ := info_parts infoG
  go_enter Try.func111, Try.ntmps111
  go_wp2_with fail
  refine calls_gen fun W hW => ?_
  have hB : Blk W w.heap.size [.int .i64 0, .slice none 0 0] 35 := by
    rw [hW]
    exact (Blk.new' (w := w) _ _ rfl).alloc _
  have hO : Blk W (w.heap.size + 1) [.int .i64 n, .slice none 0 0] 35 := by
    rw [hW]
    exact Blk.new' _ _ (by simp)
  have hd : Dr w c W := (Dr.refl h).step hc (by rw [hW]; (repeat (first | with_reducible exact Below.refl _ _ | with_reducible assumption | with_reducible refine Below.setCell ?_ (by first | omega | (simp; done) | (simp; omega)) _ | with_reducible refine Below.alloc ?_ (by first | omega | (simp; done) | (simp; omega)) _ | with_reducible refine Below.drew ?_ | with_reducible refine belowDrewN ?_ _ | with_reducible refine Below.trans ?_ (Below.mono (by assumption) (by first | omega | (simp; done) | (simp; omega))))))
  clear hW h
  refine (dBelow c (most + 1) (by omega) _ hd.1).mono ?_
  rintro e w1 ⟨x, ⟨x0, x1, _⟩, rfl, hd1⟩
  have hx := x1 (by omega)
  obtain ⟨m, rfl⟩ := Int.eq_ofNat_of_zero_le x0
  have hm' : m ≤ most := by omega
  have hB1 := Dr.blk hd1 hB (by omega)
  have hO1 := Dr.blk hd1 hO (by omega)
  have h1' := Dr.trans hd hd1
  clear x1 hd1 hd hB hO
  have hs1 : w.heap.size + 2 ≤ w1.heap.size := by have := hO1.lt; omega
  go_wp2_with fail
  go_loopw [9] (fun z wr => ∃ (j : Nat) (l : List GT) (v : Value), z = .int .i64 j ∧ j ≤ m ∧ Hid (l.length = j) ∧ OwnG wr (w.heap.size + 2) v l ∧ Blk wr w.heap.size [.int .i64 0, .slice none 0 0] 35 ∧ Blk wr (w.heap.size + 1) [.int .i64 n, v] 35 ∧ Dr w c wr) (fun z _ => m - (intOf z).toNat)
  case atStart => exact ⟨0, [], _, rfl, Nat.zero_le _, rfl, OwnF.nil _ _, hB1, hO1, h1'⟩
  case round =>
    obtain ⟨j, l, v, rfl, j0, HL, hS, hB, hO, hd⟩ := hrel
    by_cases hj : j < m
    · have hs := hd.size
      have hSd : OwnG wr.drew (w.heap.size + 2) v l := hS.frame fun _ _ _ => rfl
      have hBd := hB.drew
      have hOd := hO.drew
      have hdd : Dr w c wr.drew := hd.step hc (by (repeat (first | with_reducible exact Below.refl _ _ | with_reducible assumption | with_reducible refine Below.setCell ?_ (by first | omega | (simp; done) | (simp; omega)) _ | with_reducible refine Below.alloc ?_ (by first | omega | (simp; done) | (simp; omega)) _ | with_reducible refine Below.drew ?_ | with_reducible refine belowDrewN ?_ _ | with_reducible refine Below.trans ?_ (Below.mono (by assumption) (by first | omega | (simp; done) | (simp; omega))))))
      have hcO : w.heap.size + 1 ≠ c := by omega
      have hcB : w.heap.size ≠ c := by omega
      obtain ⟨cO, fO, sO⟩ := hOd.facts
      have hv := hSd.lt
      clear hS hB hO hd
      go_wp2_with fail
      go_region_law (first
        | (go_simp; go_at_call 160; refine (dGate c n h1 h4 _ hdd.1).mono ?_; rintro e w2 ⟨⟨gk, ga, gb, gc⟩, rfl, -, hd2⟩; have hO2 := Dr.blk hd2 hOd hcO; have hB2 := Dr.blk hd2 hBd hcB; have hS2 := OwnF.dr hSd hd2 (by omega); have h2 := Dr.trans hdd hd2; obtain ⟨cO2, fO2, sO2⟩ := hO2.facts; clear hd2)
        | (refine step_append_lies _ rfl (.tmp 22) (.tmp 26) 33 rfl (w.heap.size + 2) TG iG _ 4 32 Try.underlying33 hiG hzG0 hzG1 hzG2 rfl (by decide) v l.length (flatC gcells l) (by simp [Act.eval]) (World.ownsRow.alloc hS2 _) ⟨w2.heap.size, 0, none⟩ 1 1 (gcells ⟨gk, ga, gb, gc⟩) (by simp [Act.eval]) rfl (at_new _ (gcells ⟨gk, ga, gb, gc⟩) _) (gcells_one _) (by decide) (by have := HL.out; unfold maxLen; omega) (by have := HL.out; omega) (by have := Dr.size h2; simp; omega) _ rfl ?_; intro g cap w3 hown hgrow hat hlt; clear hat; have hb3 : Below (w.heap.size + 2) w2 w3 := ((Below.refl _ _).alloc (by have := Dr.size h2; omega) _).grown hgrow (by have := Dr.size h2; simp; omega) (fun k hk => (OwnF.lt hS2 k hk).1); have hO3 := hO2.below hb3 (by omega); have hB3 := hB2.below hb3 (by omega); have hS3 : OwnG w3 (w.heap.size + 2) (.slice (some ⟨g, 0, none⟩) (l.length + 1) cap) (l ++ [⟨gk, ga, gb, gc⟩]) := OwnF.snoc hown; obtain ⟨cO3, fO3, sO3⟩ := hO3.facts; have HD := Lib.hid (h2.step (w2 := w3.setCell ⟨w.heap.size + 1, 1, none⟩ (.slice (some ⟨g, 0, none⟩) (l.length + 1) cap)) hc ((hb3.mono (by omega)).setCell (by simp) _)); clear hown hgrow hb3 hO2 hB2 cO2 fO2 sO2 h2 hS2))
      all_goals go_wp2
      all_goals go_roundw
      case rel => exact ⟨j + 1, _, _, by go_num, by omega, by simp only [Hid, List.length_append, List.length_cons, List.length_nil, HL.out], hS3.frame (fun b hb1 hb2 => Below.heap_setCell _ _ _ _ (by simp; omega)), hB3.other (by simp) _, hO3.set 1 _, HD.out⟩
      case measure => simp [intOf]; omega
      case rel => exact ⟨j + 1, _, _, by go_num, by omega, by simp only [Hid, List.length_append, List.length_cons, List.length_nil, HL.out], hS3.frame (fun b hb1 hb2 => Below.heap_setCell _ _ _ _ (by simp; omega)), hB3.other (by simp) _, hO3.set 1 _, HD.out⟩
      case measure => simp [intOf]; omega
      case rel => exact ⟨j + 1, _, _, by go_num, by omega, by simp only [Hid, List.length_append, List.length_cons, List.length_nil, HL.out], hS3.frame (fun b hb1 hb2 => Below.heap_setCell _ _ _ _ (by simp; omega)), hB3.other (by simp) _, hO3.set 1 _, HD.out⟩
      case measure => simp [intOf]; omega
    · have hjm : j = m := by omega
      subst hjm
      obtain ⟨ao, cap, rfl, _⟩ := hS.read gcells_len
      obtain ⟨cB, fB, sB⟩ := hB.facts
      obtain ⟨cO, fO, sO⟩ := hO.facts
      have hl : Hid (l.length ≤ most) := by simp only [Hid, HL.out]; exact hm'
      have hS' : OwnG wr w.heap.size (.slice ao l.length cap) l := OwnF.mono hS (by omega)
      have hf : OwnG ((wr.setCell ⟨w.heap.size, 0, none⟩ (.int .i64 n)).setCell ⟨w.heap.size, 1, none⟩ (.slice ao l.length cap)) w.heap.size (.slice ao l.length cap) l :=
        OwnF.mono (hS.frame (fun b hb1 hb2 => by rw [Below.heap_setCell _ _ _ _ (by simp; omega), Below.heap_setCell _ _ _ _ (by simp; omega)])) (by omega)
      have HF := Lib.hid hf
      have HD := Lib.hid (hd.step (w2 := (wr.setCell ⟨w.heap.size, 0, none⟩ (.int .i64 n)).setCell ⟨w.heap.size, 1, none⟩ (.slice ao l.length cap)) hc (by (repeat (first | with_reducible exact Below.refl _ _ | with_reducible assumption | with_reducible refine Below.setCell ?_ (by first | omega | (simp; done) | (simp; omega)) _ | with_reducible refine Below.alloc ?_ (by first | omega | (simp; done) | (simp; omega)) _ | with_reducible refine Below.drew ?_ | with_reducible refine belowDrewN ?_ _ | with_reducible refine Below.trans ?_ (Below.mono (by assumption) (by first | omega | (simp; done) | (simp; omega)))))))
      clear hf hS' hS hd hB hO
      go_wp2
      exact bodyPost_ret (v := Cv n ao l.length cap) (by simp [results, Try.results111, go_sem, *]) rfl ⟨_, _, _, _, rfl, ⟨rfl, hl.out⟩, HF.out, HD.out⟩

end Go.Proofs.Yteckhaafdojoeaa

/-! D10: Draws: DrawApplyGate, DrawApplyGates. -/
namespace Go.Proofs.Yteckhaafdojoeaa
open Go.RowKit BigFrame

/-- A draw's outcome: a gate and a state. -/
def OutGS (w : World) (e : Ending) (w' : World) : Prop := ∃ g v l, e = .returned (.tuple #[Gv g, v]) ∧ l.length ≤ 8 ∧ OwnS w' w.heap.size v l ∧ Below w.heap.size w w'
/-- A draw's outcome: gates and a state. -/
def OutRS (w : World) (e : Ending) (w' : World) : Prop := ∃ ao gs cap v l, e = .returned (.tuple #[.slice ao gs.length cap, v]) ∧ gs.length ≤ 9 ∧ l.length ≤ 8 ∧ OwnG w' w.heap.size (.slice ao gs.length cap) gs ∧ OwnS w' w.heap.size v l ∧ Below w.heap.size w w'
theorem two_le8 {n : Nat} (h : n ≤ 3) : 2 ^ n ≤ 8 := by
  have hcase : n = 0 ∨ n = 1 ∨ n = 2 ∨ n = 3 := by omega
  rcases hcase with rfl | rfl | rfl | rfl <;> decide
theorem Dr.whole {w w1 w2 : World} {c : Nat} (hb : Below w.heap.size w w1) (h : Dr w1 c w2) (hc : w.heap.size ≤ c) (hl : c < w1.heap.size) : Below w.heap.size w w2 := hb.trans (grown_below2 h.2 hc hl)
theorem basis_length_le (n : Nat) (h : n ≤ 3) (i : Int) : (basis n i).length ≤ 8 := by
  unfold basis
  split
  · rw [List.length_set, List.length_replicate]
    exact two_le8 h
  · exact Nat.zero_le _

set_option maxRecDepth 100000 in
set_option maxHeartbeats 8000000 in
theorem dDrawApplyGate (ao : Option Addr) (l : List Int) (cap : Nat) (hn : l.length ≤ 2000000) (w : World) (h : RdU w ao l) :
    Calls Try.prog 68 #[.slice ao l.length cap] w (OutGS w) := by
  go_enter Try.func68, Try.ntmps68
  go_wp2_with fail
  refine calls_gen fun W hW => ?_
  have hB : Blk W w.heap.size [.int .i64 0, .int .i64 0, .int .i64 0, .int .i64 0] 59 := by
    rw [hW]
    exact Blk.new' (w := w) _ _ rfl
  have hb0 : Below w.heap.size w W := by rw [hW]; (repeat (first | with_reducible exact Below.refl _ _ | with_reducible assumption | with_reducible refine Below.setCell ?_ (by first | omega | (simp; done) | (simp; omega)) _ | with_reducible refine Below.alloc ?_ (by first | omega | (simp; done) | (simp; omega)) _ | with_reducible refine Below.drew ?_ | with_reducible refine belowDrewN ?_ _ | with_reducible refine Below.trans ?_ (Below.mono (by assumption) (by first | omega | (simp; done) | (simp; omega)))))
  have hR : RdU W ao l := by rw [hW]; exact h.below ((Below.refl _ _).alloc (Nat.le_refl _) _)
  clear hW h
  refine (dNew ao l cap hn _ hR).mono ?_
  rintro e w1 ⟨c, rfl, hC, hcb, hb1⟩
  have hs0 := hB.lt
  have hB1 := hB.below hb1 hB.lt
  have hb01 : Below w.heap.size w w1 := hb0.trans (hb1.mono (by omega))
  have hcw : w.heap.size < c := by omega
  have hd0 := Dr.refl hC
  have hcl := hC.lt
  clear hb1 hB hR hcb hb0
  go_wp2_with fail
  refine (dBelow c 3 (by decide) _ hC).mono ?_
  rintro e w2 ⟨x, ⟨x0, x1, _⟩, rfl, hd2⟩
  have hx := x1 (by decide)
  obtain ⟨n, hn⟩ : ∃ n : Nat, (1 : Int) + x = n := ⟨(1 + x).toNat, by omega⟩
  have hn1 : 1 ≤ n := by omega
  have hn3 : n ≤ 3 := by omega
  have hN8 := two_le8 hn3
  have HN := Lib.hid hn
  have h2 : Dr w1 c w2 := hd2
  clear x1 hn hd2
  go_wp2_with fail
  rw [HN.out]
  refine (dVec c n hn1 (by omega) _ h2.1).mono ?_
  rintro e w3 ⟨v, p, rfl, hpl, hS, hd3⟩
  have hs2 := Dr.size h2
  have hs01 := hb01.size
  have h3 := Dr.trans h2 hd3
  have hS3 : OwnS w3 w1.heap.size v p := hS.mono hs2
  have hp8 : p.length ≤ 8 := by omega
  clear hS hd3 h2 hpl hN8
  go_wp2_with fail
  refine (dOnce c 6 (by decide) _ h3.1).mono ?_
  rintro e w4 ⟨b, rfl, hd4⟩
  have h4 := Dr.trans h3 hd4
  have hS4 := hS3.dr hd4 hcl
  have hs4 := Dr.size h4
  clear hd4 h3 hS3
  rcases b with _ | _
  · go_wp2_with fail
    refine (dGateBent c n hn1 (by omega) _ h4.1).mono ?_
    rintro e w5 ⟨⟨gk, ga, gb, gc⟩, rfl, -, hd5⟩
    have h5 := Dr.trans h4 hd5
    have hS5 := hS4.dr hd5 hcl
    have hB5 := Dr.blk h5 hB1 (by omega)
    obtain ⟨cB, fB, sB⟩ := hB5.facts
    have hb5 := Dr.whole hb01 h5 (by omega) hcl
    have HS := Lib.hid (OwnS.mono (hS5.frame (w' := (((w5.setCell ⟨w.heap.size, 0, none⟩ (.int .i64 gk)).setCell ⟨w.heap.size, 1, none⟩ (.int .i64 ga)).setCell ⟨w.heap.size, 2, none⟩ (.int .i64 gb)).setCell ⟨w.heap.size, 3, none⟩ (.int .i64 gc)) (fun b hb1 hb2 => by
      have : b ≠ w.heap.size := by omega
      rw [Below.heap_setCell _ _ _ _ this, Below.heap_setCell _ _ _ _ this, Below.heap_setCell _ _ _ _ this, Below.heap_setCell _ _ _ _ this])) hs01)
    clear hS5 hB5 hB1 hS4 h4 h5 hd5
    go_wp2
    exact bodyPost_ret (v := .tuple #[Gv ⟨gk, ga, gb, gc⟩, v]) (by simp [results, Try.results68, go_sem, *]) rfl ⟨_, _, _, rfl, hp8, HS.out, by (repeat (first | with_reducible exact Below.refl _ _ | with_reducible assumption | with_reducible refine Below.setCell ?_ (by first | omega | (simp; done) | (simp; omega)) _ | with_reducible refine Below.alloc ?_ (by first | omega | (simp; done) | (simp; omega)) _ | with_reducible refine Below.drew ?_ | with_reducible refine belowDrewN ?_ _ | with_reducible refine Below.trans ?_ (Below.mono (by assumption) (by first | omega | (simp; done) | (simp; omega)))))⟩
  · go_wp2_with fail
    refine (dVecBent c _ h4.1).mono ?_
    rintro e w5 ⟨v', p', rfl, hpl', hS5', hd5⟩
    have h5 := Dr.trans h4 hd5
    have hS5 : OwnS w5 w1.heap.size v' p' := hS5'.mono hs4
    clear hS4 h4 hd5 hp8 hS5'
    go_wp2_with fail
    refine (dGateBent c n hn1 (by omega) _ h5.1).mono ?_
    rintro e w6 ⟨⟨gk, ga, gb, gc⟩, rfl, -, hd6⟩
    have h6 := Dr.trans h5 hd6
    have hS6 := hS5.dr hd6 hcl
    have hB6 := Dr.blk h6 hB1 (by omega)
    obtain ⟨cB, fB, sB⟩ := hB6.facts
    have hb6 := Dr.whole hb01 h6 (by omega) hcl
    have HS := Lib.hid (OwnS.mono (hS6.frame (w' := (((w6.setCell ⟨w.heap.size, 0, none⟩ (.int .i64 gk)).setCell ⟨w.heap.size, 1, none⟩ (.int .i64 ga)).setCell ⟨w.heap.size, 2, none⟩ (.int .i64 gb)).setCell ⟨w.heap.size, 3, none⟩ (.int .i64 gc)) (fun b hb1 hb2 => by
      have : b ≠ w.heap.size := by omega
      rw [Below.heap_setCell _ _ _ _ this, Below.heap_setCell _ _ _ _ this, Below.heap_setCell _ _ _ _ this, Below.heap_setCell _ _ _ _ this])) hs01)
    clear hS6 hB6 hB1 hS5 h5 h6 hd6
    go_wp2
    exact bodyPost_ret (v := .tuple #[Gv ⟨gk, ga, gb, gc⟩, v']) (by simp [results, Try.results68, go_sem, *]) rfl ⟨_, _, _, rfl, hpl', HS.out, by (repeat (first | with_reducible exact Below.refl _ _ | with_reducible assumption | with_reducible refine Below.setCell ?_ (by first | omega | (simp; done) | (simp; omega)) _ | with_reducible refine Below.alloc ?_ (by first | omega | (simp; done) | (simp; omega)) _ | with_reducible refine Below.drew ?_ | with_reducible refine belowDrewN ?_ _ | with_reducible refine Below.trans ?_ (Below.mono (by assumption) (by first | omega | (simp; done) | (simp; omega)))))⟩

theorem field_gates (a v : Value) (w : World) : (Instr.field 35 (.agg #[a, v]) 1).run Try.prog w = .ok v w := by kernel_rfl

set_option maxRecDepth 100000 in
set_option maxHeartbeats 8000000 in
theorem dDrawApplyGates (ao : Option Addr) (l : List Int) (cap : Nat) (hn : l.length ≤ 2000000) (w : World) (h : RdU w ao l) :
    Calls Try.prog 65 #[.slice ao l.length cap] w (OutRS w) := by
  obtain ⟨iG, hiG, hzG0, hzG1, hzG2⟩ := info_parts infoG
  go_enter Try.func65, Try.ntmps65
  go_wp2_with fail
  refine (dNew ao l cap hn _ h).mono ?_
  rintro e w1 ⟨c, rfl, hC, hcb, hb1⟩
  have hcl := hC.lt
  have hs01 := hb1.size
  clear h
  go_wp2_with fail
  refine (dBelow c 3 (by decide) _ hC).mono ?_
  rintro e w2 ⟨x, ⟨x0, x1, _⟩, rfl, h2⟩
  have hx := x1 (by decide)
  obtain ⟨n, hn⟩ : ∃ n : Nat, (1 : Int) + x = n := ⟨(1 + x).toNat, by omega⟩
  have hn1 : 1 ≤ n := by omega
  have hn3 : n ≤ 3 := by omega
  have hN8 := two_le8 hn3
  have hw := wrap_pow n (by omega)
  have hbl := Lib.hid (basis_length_le n hn3)
  obtain ⟨N, hN⟩ : ∃ N, 2 ^ n = N := ⟨_, rfl⟩
  rw [hN] at hw hN8
  have HN := Lib.hid hn
  have HNN := Lib.hid hN
  have h2 : Dr w1 c w2 := h2
  clear x1 hn hN
  go_wp2_with fail
  rw [HN.out]
  have hfd := field_gates
  refine (dRight c n hn1 (by omega) 8 (by decide) _ h2.1).mono ?_
  rintro e w3 ⟨k, go, gs, gcap, rfl, ⟨rfl, hgl⟩, hG, hd3⟩
  have hs2 := Dr.size h2
  have h3 := Dr.trans h2 hd3
  have hG3 : OwnG w3 w1.heap.size (.slice go gs.length gcap) gs := OwnF.mono hG hs2
  clear hd3 h2 hG
  go_wp2_with fail
  refine (dOnce c 8 (by decide) _ h3.1).mono ?_
  rintro e w4 ⟨b, rfl, hd4⟩
  have h4 := Dr.trans h3 hd4
  have hG4 := hG3.dr hd4 hcl
  have hs4 := Dr.size h4
  clear hd4 h3 hG3
  go_upto_if 18 with fail
  go_cut [6] (fun y wx => ∃ (gx : Option Addr) (hs : List GT) (xc : Nat), y = .slice gx hs.length xc ∧ hs.length ≤ 9 ∧ OwnG wx w1.heap.size y hs ∧ Dr w1 c wx)
  case first =>
    rcases b with _ | _
    · go_wp2_with fail
      go_meet
      exact ⟨_, _, _, rfl, by omega, hG4, h4⟩
    · go_wp2_with fail
      refine (dGateBent c n hn1 (by omega) _ h4.1).mono ?_
      rintro e w5 ⟨⟨gk, ga, gb, gc⟩, rfl, -, hd5⟩
      have h5 := Dr.trans h4 hd5
      have hs5 := Dr.size h5
      have hG5 : w5.ownsRow w1.heap.size TG 4 (.slice go gs.length gcap) gs.length (flatC gcells gs) := hG4.dr hd5 hcl
      clear hG4 h4 hd5
      go_wp2_with (at_builtin; refine wpList_append_own _ rfl _ _ 33 rfl w1.heap.size TG iG _ 4 32 Try.underlying33 hiG hzG0 hzG1 hzG2 rfl (by decide) _ _ _ rfl (World.ownsRow.alloc hG5 _) ⟨w5.heap.size, 0, none⟩ 1 1 (gcells ⟨gk, ga, gb, gc⟩) rfl rfl ?c1 ?c2 ?c3 ?c4 ?c5 ?_)
      case c1 => exact at_new _ (gcells ⟨gk, ga, gb, gc⟩) _
      case c2 => exact gcells_one _
      case c3 => unfold maxLen; omega
      case c4 => omega
      case c5 => simp; omega
      intro v' w' hown' hgrow _
      have hG6 : OwnG w' w1.heap.size v' (gs ++ [⟨gk, ga, gb, gc⟩]) := OwnF.snoc hown'
      have hbb : Below w1.heap.size w5 w' := ((Below.refl _ _).alloc (by omega) _).grown hgrow (by simp; omega) fun g hg => (World.ownsRow.lt hG5 g hg).1
      have hD := h5.step hcl hbb
      obtain ⟨vo, vc, rfl, _⟩ := hG6.read gcells_len
      clear hown' hgrow hG5 hbb h5
      go_wp2_with fail
      go_meet
      exact ⟨_, _, _, rfl, by simp; omega, hG6, hD⟩
  case rest =>
    obtain ⟨gx, hs, xc, rfl, hhl, hGx, hdx⟩ := hcut
    clear hG4 h4 hgl
    go_wp2_with fail
    refine (dBelow c N (by omega) _ hdx.1).mono ?_
    rintro e w5 ⟨i, -, rfl, hd5⟩
    have h5 := Dr.trans hdx hd5
    have hG5 := hGx.dr hd5 hcl
    have hs5 := Dr.size h5
    clear hGx hd5 hdx
    go_wp2_with fail
    refine (sBasisState n i _).mono ?_
    rintro e w6 ⟨v, rfl, hS, hb6⟩
    have h6 := h5.step hcl (hb6.mono (by omega))
    have hG6 := hG5.below hb6 (Nat.le_refl _)
    have hS6 : OwnS w6 w1.heap.size v (basis n i) := hS.mono hs5
    have hl6 := hbl.out i
    generalize basis (n : Int) i = p at hS6 hl6
    clear hG5 h5 hS hb6
    go_wp2_with fail
    refine (dOnce c 3 (by decide) _ h6.1).mono ?_
    rintro e w7 ⟨b, rfl, hd7⟩
    have h7 := Dr.trans h6 hd7
    have hG7 := hG6.dr hd7 hcl
    have hS7 := hS6.dr hd7 hcl
    have hs7 := Dr.size h7
    clear hG6 hS6 h6 hd7
    go_upto_if 33 with fail
    go_cut [7] (fun y wx => ∃ p : List DO, p.length ≤ 8 ∧ OwnS wx w1.heap.size y p ∧ OwnG wx w1.heap.size (.slice gx hs.length xc) hs ∧ Dr w1 c wx)
    case first =>
      rcases b with _ | _
      · go_wp2_with fail
        go_meet
        exact ⟨p, hl6, hS7, hG7, h7⟩
      · go_wp2_with fail
        refine (dVec c n hn1 (by omega) _ h7.1).mono ?_
        rintro e w8 ⟨v8, p8, rfl, hp8, hS8, hd8⟩
        have h8 := Dr.trans h7 hd8
        have hG8 := hG7.dr hd8 hcl
        have hl8 : p8.length ≤ 8 := by rw [hp8, HNN.out]; exact hN8
        have hS8 : OwnS w8 w1.heap.size v8 p8 := OwnS.mono hS8 hs7
        clear hd8 hG7 hS7 h7
        go_wp2_with fail
        go_meet
        exact ⟨p8, hl8, hS8, hG8, h8⟩
    case rest =>
      obtain ⟨q, hq, hSq, hGq, hdq⟩ := hcut
      clear hS7 hG7 h7 hl6
      go_wp2_with fail
      refine (dOnce c 12 (by decide) _ hdq.1).mono ?_
      rintro e w9 ⟨b2, rfl, hd9⟩
      have h9 := Dr.trans hdq hd9
      have hG9 := hGq.dr hd9 hcl
      have hS9 := hSq.dr hd9 hcl
      have hs9 := Dr.size h9
      clear hGq hSq hdq hd9
      rcases b2 with _ | _
      · have hb9 := Dr.whole hb1 h9 (by omega) hcl
        have HG := Lib.hid (OwnF.mono hG9 hs01)
        have HS := Lib.hid (OwnS.mono hS9 hs01)
        go_wp2
        go_ret2
        exact ⟨_, _, _, _, _, rfl, hhl, hq, HG.out, HS.out, hb9⟩
      · go_wp2_with fail
        refine (dVecBent c _ h9.1).mono ?_
        rintro e w10 ⟨v10, p10, rfl, hp10, hS10, hd10⟩
        have h10 := Dr.trans h9 hd10
        have HG := Lib.hid (OwnF.mono (hG9.dr hd10 hcl) hs01)
        have HS := Lib.hid (OwnS.mono hS10 (Nat.le_trans hs01 hs9))
        have hb10 := Dr.whole hb1 h10 (by omega) hcl
        clear hG9 hS9 h9 hS10 hd10
        go_wp2
        go_ret2
        exact ⟨_, _, _, _, _, rfl, hhl, hp10, HG.out, HS.out, hb10⟩

end Go.Proofs.Yteckhaafdojoeaa

/-! S43: The laws' number out of a code (at0); slices of a row of gates. -/
namespace Go.Proofs.Yteckhaafdojoeaa
open Go.RowKit BigFrame

theorem wrap_byte {x : Int} (h0 : 0 ≤ x) (h1 : x < 256) : IntKind.i64.wrap x = x := IntWalk.i64_in _ (by omega)

set_option maxRecDepth 100000 in
set_option maxHeartbeats 4000000 in
theorem lAt0 (ao : Option Addr) (l : List Int) (cap : Nat) (hn : l.length ≤ 2000000) (hu : ∀ x ∈ l, 0 ≤ x ∧ x < 256) (w : World) (h : RdU w ao l) :
    Calls Try.prog 67 #[.slice ao l.length cap, .int .i64 3] w fun e w' => ∃ x : Nat, e = .returned (.int .i64 x) ∧ x < 256 ∧ w = w' := by
  by_cases hl : 3 < l.length
  · obtain ⟨b, o, rfl, hb, hc⟩ := h.byte hl
    have hx := hu _ (List.getElem_mem hl)
    obtain ⟨x, hxe⟩ : ∃ x : Nat, l[3] = (x : Int) := ⟨(l[3]).toNat, by omega⟩
    rw [hxe] at hc hx
    have hw := wrap_byte hx.1 hx.2
    have hlt : (3 : Int) < (l.length : Int) := by omega
    have h8 : x < 256 := by omega
    go_enter Try.func67, Try.ntmps67
    go_wp2
    go_ret
    exact ⟨x, rfl, h8, rfl⟩
  · have hlt : ¬ (3 : Int) < (l.length : Int) := by omega
    go_enter Try.func67, Try.ntmps67
    go_wp2
    go_ret
    exact ⟨(21 + l.length) % 256, rfl, by omega, rfl⟩

/-- The first k of gates in memory; the rest of them. -/
theorem RdF.take {α : Type} {c : α → List Value} {K : Nat} {w : World} {ao : Option Addr} {l : List α} (h : RdF c K w ao l) (k : Nat) : RdF c K w ao (l.take k) := fun i hi => by
  rw [List.length_take] at hi
  obtain ⟨b, o, h1, h2, h3⟩ := h i (by omega)
  exact ⟨b, o, h1, h2, fun j hj => by rw [h3 j hj, List.getElem_take]⟩
theorem RdF.drop {α : Type} {c : α → List Value} {K : Nat} {w : World} {g : Nat} {l : List α} (h : RdF c K w (some ⟨g, 0, none⟩) l) (k : Nat) : RdF c K w (some ⟨g, k * K, none⟩) (l.drop k) := fun i hi => by
  rw [List.length_drop] at hi
  obtain ⟨b, o, h1, h2, h3⟩ := h (k + i) (by omega)
  cases h1
  refine ⟨g, k * K, rfl, h2, fun j hj => ?_⟩
  rw [List.getElem_drop, ← h3 j hj, Nat.add_mul]
  congr 2
  omega

end Go.Proofs.Yteckhaafdojoeaa

/-! V7: Plain laws of rows of gates: split, undone, against the matrix. -/
namespace Go.Proofs.Yteckhaafdojoeaa

theorem runG_append : ∀ (a b : List GT) (v : List DO), runG (a ++ b) v = if (runG a v).2 then runG b (runG a v).1 else ([], false)
  | [], b, v => by rw [runG, List.nil_append, if_pos rfl]
  | g :: r, b, v => by
    rw [List.cons_append, runG, runG]
    split
    · exact runG_append r b _
    · rfl
theorem applyGs_split {l : List GT} {v : List DO} (h : (applyGs l v).2 = true) (k : Nat) :
    (applyGs (l.take k) v).2 = true ∧ applyGs (l.drop k) (applyGs (l.take k) v).1 = applyGs l v := by
  obtain ⟨h0, h1⟩ := applyGs_parts h
  have h2 : (runG l v).2 = true := by rw [← h1]; exact h
  have e := runG_append (l.take k) (l.drop k) v
  rw [List.take_append_drop] at e
  have h3 : (runG (l.take k) v).2 = true := by
    rw [e] at h2
    split at h2
    · assumption
    · cases h2
  rw [if_pos h3] at e
  have h4 : applyGs (l.take k) v = runG (l.take k) v := if_pos h0
  rw [h4]
  refine ⟨h3, ?_⟩
  rw [h1, e]
  exact if_pos (runG_okS _ _ h0 h3)

end Go.Proofs.Yteckhaafdojoeaa
