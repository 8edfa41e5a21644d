/- Draws: the cursor over the bytes of a code (l1New, l1Byte, l1Below, l1Once, l1PickInt). · Draws: numbers (l1Below, l1Once, l1PickInt, l2Small, l2Zw, l3Dw, l3Bent). · Draws: numbers of D[omega] (l3Dw, l3Bent). · Draws: permutations (IdentityPermutation, l8Perm, l8Bent, DrawPermutationMatrix). · Permutations as Lean functions: valid ones, inverses, what they do to indices, their matrices. No walk. · Unit vectors in products; permutation matrices are unitary, their adjoints are those of the inverses. No walk. · Permutations: valid ones (IsPermutation, both sides). · Permutations: inverses, what becomes of an index (InversePermutation, PermuteIndex). · Permutation matrices (PermutationMatrix, both sides). -/
import Derived.Test.YteckhaafdojoeaaGi
/-! D1: Draws: the cursor over the bytes of a code (l1New, l1Byte, l1Below, l1Once, l1PickInt). -/
namespace Go.Proofs.Yteckhaafdojoeaa
open Go.RowKit BigFrame

theorem bits_255 (y : Int) : 0 ≤ bits .and .i64 y 255 ∧ bits .and .i64 y 255 ≤ 255 := by
  have e : bits .and .i64 y 255 = IntKind.i64.wrap ((BitVec.ofInt 64 y &&& BitVec.ofInt 64 255).toNat : Int) := rfl
  have h2 : (BitVec.ofInt 64 y &&& BitVec.ofInt 64 255).toNat = (BitVec.ofInt 64 y).toNat % 256 := by
    rw [BitVec.toNat_and]
    exact Nat.and_two_pow_sub_one_eq_mod (BitVec.ofInt 64 y).toNat 8
  rw [e, h2]
  have h3 : (BitVec.ofInt 64 y).toNat % 256 < 256 := Nat.mod_lt _ (by decide)
  generalize (BitVec.ofInt 64 y).toNat % 256 = k at h3
  have h4 : IntKind.i64.wrap (k : Int) = k := IntWalk.i64_in _ (by omega)
  rw [h4]
  omega

/-- A slice of bytes. -/
def ucells (x : Int) : List Value := [.int .u8 x]
theorem ucells_len (x : Int) : (ucells x).length = 1 := rfl
abbrev RdU (w : World) (ao : Option Addr) (l : List Int) : Prop := RdF ucells 1 w ao l
theorem RdF.byte {w : World} {ao : Option Addr} {l : List Int} (h : RdU w ao l) {i : Nat} (hi : i < l.length) : ∃ b o, ao = some ⟨b, o, none⟩ ∧ b < w.heap.size ∧ w.cell? ⟨b, o + i, none⟩ = some (.int .u8 l[i]) := by
  obtain ⟨b, o, h1, h2, h3⟩ := h i hi
  have := h3 0 (by decide)
  rw [Nat.mul_one, Nat.add_zero] at this
  exact ⟨b, o, h1, h2, this⟩
abbrev TCur : Nat := 153
/-- Block c is a cursor over bytes that lie in an older block. -/
def Cur (w : World) (c : Nat) : Prop :=
  ∃ (ao : Option Addr) (l : List Int) (cap i : Nat) (h : Int), Blk w c [.slice ao l.length cap, .int .i64 i, .int .i64 h] TCur ∧ i ≤ l.length ∧ l.length ≤ 9223372036854775807 ∧ RdU w ao l ∧ (∀ b o, 0 < l.length → ao = some ⟨b, o, none⟩ → b < c)
theorem Cur.lt {w : World} {c : Nat} (h : Cur w c) : c < w.heap.size := by
  obtain ⟨_, _, _, _, _, hB, _⟩ := h
  exact hB.lt
theorem Cur.below {B : Nat} {w w' : World} {c : Nat} (h : Cur w c) (hb : Below B w w') (hB : c < B) : Cur w' c := by
  have hs := h.lt
  obtain ⟨ao, l, cap, i, h, hK, hi, hl, hR, hlt⟩ := h
  refine ⟨ao, l, cap, i, h, hK.below hb hB, hi, hl, fun k hk => ?_, hlt⟩
  obtain ⟨b, o, h1, h2, h3⟩ := hR k hk
  have := hlt b o (by omega) h1
  exact ⟨b, o, h1, by have := hb.size; omega, fun j hj => by rw [hb.cell (p := ⟨b, o + k * 1 + j, none⟩) (by show b < B; omega), h3 j hj]⟩
/-- A draw's effect: it may write to the cursor alone. -/
theorem grown_refl (w : World) (r : Option Nat) : w.grownBy w r := World.grownBy.refl w r
theorem grown_below2 {w w' : World} {B c : Nat} (h : w.grownBy w' (some c)) (hB : B ≤ c) (hs : c < w.heap.size) : Below B w w' :=
  (Below.refl B w).grown h (by omega) (fun k hk => by cases hk; exact hB)
theorem below_grown {w w' : World} (h : Below w.heap.size w w') (r : Option Nat) : w.grownBy w' r := ⟨h.os, h.tape, h.output, h.size, fun k hk _ => h.block k hk⟩

set_option maxRecDepth 100000 in
set_option maxHeartbeats 4000000 in
theorem dNew (ao : Option Addr) (l : List Int) (cap : Nat) (hn : l.length ≤ 2000000) (w : World) (h : RdU w ao l) :
    Calls Try.prog 95 #[.slice ao l.length cap] w fun e w' => ∃ c, e = .returned (.pointer (some ⟨c, 0, none⟩)) ∧ Cur w' c ∧ w.heap.size ≤ c ∧ Below w.heap.size w w' := by
  go_enter Try.func95, Try.ntmps95
  go_wp2
  go_loopw [3, 4] (fun y z wr => ∃ (j : Nat) (q : Int), y = .int .i64 q ∧ z = .int .i64 j ∧ j ≤ l.length ∧ Below w.heap.size w wr) (fun _ z _ => l.length - (intOf z).toNat)
  case atStart => exact ⟨0, _, rfl, rfl, Nat.zero_le _, Below.refl _ _⟩
  case round =>
    obtain ⟨j, q, rfl, rfl, j0, hb0⟩ := hrel
    have hs0 := hb0.size
    have fin : ∀ q : Int, Cur (wr.alloc (.cells #[.slice ao l.length cap, .int .i64 (0 : Nat), .int .i64 q] TCur)) wr.heap.size := fun q => by
      refine ⟨ao, l, cap, 0, q, Blk.new' _ _ rfl, Nat.zero_le _, by omega, (h.below hb0).below ((Below.refl _ _).alloc (Nat.le_refl _) _), fun b o h0 hbo => ?_⟩
      obtain ⟨b', o', h1, h2, _⟩ := (h.below hb0) 0 h0
      rw [hbo] at h1
      cases h1
      exact h2
    by_cases hj : j < l.length
    · by_cases h4 : j < 4000
      · obtain ⟨b, o, rfl, hlb, hcell⟩ := (h.below hb0).byte hj
        have hd1 : decide (j < l.length) = true := by simpa using hj
        have hd2 : decide (j < 4000) = true := by simpa using h4
        clear fin
        go_wp2
        go_roundw
        case rel => exact ⟨j + 1, _, rfl, by go_num, by omega, hb0⟩
        case measure => simp [intOf]; omega
      · have hd1 : decide (j < l.length) = true := by simpa using hj
        have hd2 : decide (j < 4000) = false := by simpa using h4
        have F := Lib.hid fin
        clear fin
        go_wp2
        go_ret
        exact ⟨_, rfl, F.out _, hs0, hb0.alloc hs0 _⟩
    · have hd1 : decide (j < l.length) = false := by simpa using hj
      have F := Lib.hid fin
      clear fin
      go_wp2
      go_ret
      exact ⟨_, rfl, F.out _, hs0, hb0.alloc hs0 _⟩

/-- A draw's outcome: a number for which P holds; only the cursor may be written to. -/
def DInt (w : World) (c : Nat) (P : Int → Prop) (e : Ending) (w' : World) : Prop := ∃ x : Int, P x ∧ e = .returned (.int .i64 x) ∧ Cur w' c ∧ w.grownBy w' (some c)

theorem grown_set {w w' : World} {c : Nat} (h : w.grownBy w' (some c)) (o : Nat) (v : Value) : w.grownBy (w'.setCell ⟨c, o, none⟩ v) (some c) := by
  have hb : Below 0 w' (w'.setCell ⟨c, o, none⟩ v) := (Below.refl _ _).setCell (Nat.zero_le _) v
  refine ⟨hb.os.trans h.os, hb.tape.trans h.tape, hb.output.trans h.output, Nat.le_trans h.size hb.size, fun k hk hne => ?_⟩
  rw [Below.heap_setCell _ _ _ _ (by simpa using hne)]
  exact h.block k hk hne
theorem grown_drewN {w w' : World} {r : Option Nat} (h : w.grownBy w' r) (n : Nat) : w.grownBy (w'.drewN n) r := ⟨h.os, h.tape, h.output, h.size, h.block⟩
theorem drewN_below (w : World) (n : Nat) : Below w.heap.size w (w.drewN n) := ⟨rfl, rfl, rfl, Nat.le_refl _, fun _ _ => rfl⟩

theorem Cur.drewN {w : World} {c : Nat} (h : Cur w c) (n : Nat) : Cur (w.drewN n) c := h.below (drewN_below w n) h.lt
theorem Cur.mk {w : World} {c : Nat} {ao : Option Addr} {l : List Int} {cap i : Nat} {q : Int} (hK : Blk w c [.slice ao l.length cap, .int .i64 i, .int .i64 q] TCur) (hi : i ≤ l.length) (hl : l.length ≤ 9223372036854775807) (hR : RdU w ao l)
    (hlt : ∀ b o, 0 < l.length → ao = some ⟨b, o, none⟩ → b < c) : Cur w c := ⟨ao, l, cap, i, q, hK, hi, hl, hR, hlt⟩
theorem RdU.kept {w w' : World} {c : Nat} {ao : Option Addr} {l : List Int} (hR : RdU w ao l) (hlt : ∀ b o, 0 < l.length → ao = some ⟨b, o, none⟩ → b < c) (hg : w.grownBy w' (some c)) : RdU w' ao l := fun k hk => by
  obtain ⟨b, o, h1, h2, h3⟩ := hR k hk
  have hbc := hlt b o (by omega) h1
  refine ⟨b, o, h1, Nat.lt_of_lt_of_le h2 hg.size, fun j hj => ?_⟩
  rw [← h3 j hj]
  simp only [World.cell?, hg.block b h2 (by simp; omega)]

set_option maxRecDepth 100000 in
set_option maxHeartbeats 4000000 in
theorem dByte (c : Nat) (w : World) (h : Cur w c) :
    Calls Try.prog 158 #[.pointer (some ⟨c, 0, none⟩)] w (DInt w c (fun x => 0 ≤ x ∧ x ≤ 255)) := by
  have hc := h.lt
  obtain ⟨ao, l, cap, i, q, hK, hi, hl, hR, hlt⟩ := h
  obtain ⟨cK, fK, sK⟩ := hK.facts
  go_enter Try.func158, Try.ntmps158
  go_wp2
  refine wp_gen fun W hW => ?_
  obtain ⟨q1, hq1⟩ : ∃ q1 : Int, Blk W c [.slice ao l.length cap, .int .i64 i, .int .i64 q1] TCur := by
    rw [hW]
    exact ⟨_, hK.set 2 _⟩
  have hg1 : w.grownBy W (some c) := by rw [hW]; exact grown_set (World.grownBy.refl _ _) _ _
  have hR1 : RdU W ao l := hR.kept hlt hg1
  clear hW hK cK fK hR
  obtain ⟨cK, fK, sK⟩ := hq1.facts
  go_quiet (fail)
  go_wp2
  by_cases hil : i < l.length
  · obtain ⟨b, o, rfl, hlb, hcell⟩ := hR1.byte hil
    have hd : decide (i < l.length) = true := by simpa using hil
    have F : ∀ n, Cur ((W.drewN n).setCell ⟨c, 1, none⟩ (.int .i64 (i + 1 : Nat))) c ∧ w.grownBy ((W.drewN n).setCell ⟨c, 1, none⟩ (.int .i64 (i + 1 : Nat))) (some c) := fun n => by
      have hg2 : W.grownBy ((W.drewN n).setCell ⟨c, 1, none⟩ (.int .i64 (i + 1 : Nat))) (some c) := grown_set (grown_drewN (World.grownBy.refl _ _) n) _ _
      exact ⟨Cur.mk (i := i + 1) ((hq1.drewN n).set 1 _) hil hl (hR1.kept hlt hg2) hlt, grown_trans hg1 hg2⟩
    have F' := Lib.hid F
    clear F
    go_quiet (fail)
    go_wp2
    go_quiet (fail)
    go_wp2
    go_ret
    exact ⟨_, bits_255 _, rfl, (F'.out _).1, (F'.out _).2⟩
  · have hd : decide (i < l.length) = false := by simpa using hil
    have hC : Cur W c := Cur.mk hq1 hi hl hR1 hlt
    go_quiet (fail)
    go_wp2
    go_ret
    exact ⟨_, bits_255 _, rfl, (hC.drewN _).drewN _, grown_drewN (grown_drewN hg1 _) _⟩

end Go.Proofs.Yteckhaafdojoeaa

/-! D2: Draws: numbers (l1Below, l1Once, l1PickInt, l2Small, l2Zw, l3Dw, l3Bent). -/
namespace Go.Proofs.Yteckhaafdojoeaa
open Go.RowKit BigFrame

/-- What a draw below n may be. -/
def below (n x : Int) : Prop := 0 ≤ x ∧ (0 < n → x < n) ∧ (n ≤ 0 → x = 0)
theorem mod_below {a n : Int} (h0 : 0 < n) : below n (a % n) := ⟨Int.emod_nonneg _ (by omega), fun _ => Int.emod_lt_of_pos _ h0, fun h => by omega⟩

set_option maxRecDepth 100000 in
set_option maxHeartbeats 4000000 in
theorem dBelow (c : Nat) (n : Int) (hn : n ≤ 1000000000) (w : World) (h : Cur w c) :
    Calls Try.prog 108 #[.pointer (some ⟨c, 0, none⟩), .int .i64 n] w (DInt w c (below n)) := by
  by_cases h0 : n ≤ 0
  · go_enter Try.func108, Try.ntmps108
    go_wp2
    go_ret
    exact ⟨0, ⟨Int.le_refl _, fun h => by omega, fun _ => rfl⟩, rfl, h, grown_refl _ _⟩
  · by_cases h2 : n ≤ 256
    · have hm : ∀ a, below n (a % n) := fun a => mod_below (by omega)
      have HM := Lib.hid hm
      have hn0 : 0 < n := by omega
      clear hm
      go_enter Try.func108, Try.ntmps108
      go_wp2_with fail
      refine (dByte c _ h).mono ?_
      rintro e w1 ⟨x, ⟨x0, x1⟩, rfl, hC1, hg1⟩
      go_wp2
      go_ret
      exact ⟨_, HM.out _, rfl, hC1, hg1⟩
    · have hm : ∀ a, below n (a % n) := fun a => mod_below (by omega)
      have HM := Lib.hid hm
      have hn0 : 0 < n := by omega
      clear hm
      go_enter Try.func108, Try.ntmps108
      go_wp2_with fail
      refine (dByte c _ h).mono ?_
      rintro e w1 ⟨x, ⟨x0, x1⟩, rfl, hC1, hg1⟩
      go_wp2_with fail
      refine (dByte c _ hC1).mono ?_
      rintro e w2 ⟨y, ⟨y0, y1⟩, rfl, hC2, hg2⟩
      go_wp2_with fail
      refine (dByte c _ hC2).mono ?_
      rintro e w3 ⟨z, ⟨z0, z1⟩, rfl, hC3, hg3⟩
      go_wp2_with fail
      refine (dByte c _ hC3).mono ?_
      rintro e w4 ⟨u, ⟨u0, u1⟩, rfl, hC4, hg4⟩
      have hg := grown_trans hg1 (grown_trans hg2 (grown_trans hg3 hg4))
      clear hg1 hg2 hg3 hg4 hC1 hC2 hC3
      go_wp2
      go_ret
      exact ⟨_, HM.out _, rfl, hC4, hg⟩

/-- A draw's outcome: yes or no. -/
def DBool (w : World) (c : Nat) (e : Ending) (w' : World) : Prop := ∃ b : Bool, e = .returned (.bool b) ∧ Cur w' c ∧ w.grownBy w' (some c)
set_option maxHeartbeats 4000000 in
theorem dOnce (c : Nat) (n : Int) (hn : n ≤ 1000000000) (w : World) (h : Cur w c) :
    Calls Try.prog 109 #[.pointer (some ⟨c, 0, none⟩), .int .i64 n] w (DBool w c) := by
  go_enter Try.func109, Try.ntmps109
  go_wp2_with fail
  refine (dBelow c n hn _ h).mono ?_
  rintro e w1 ⟨x, hx, rfl, hC1, hg1⟩
  clear hx
  go_wp2
  go_ret
  exact ⟨_, rfl, hC1, hg1⟩
set_option maxHeartbeats 4000000 in
theorem dPick (c b o cap : Nat) (l : List Int) (hl : 0 < l.length) (hn : l.length ≤ 1000) (w : World) (h : Cur w c) (hbc : b ≠ c) (hb : b < w.heap.size) (hR : ∀ i (hi : i < l.length), w.cell? ⟨b, o + i, none⟩ = some (.int .i64 l[i])) :
    Calls Try.prog 151 #[.pointer (some ⟨c, 0, none⟩), .slice (some ⟨b, o, none⟩) l.length cap] w (DInt w c (· ∈ l)) := by
  go_enter Try.func151, Try.ntmps151
  go_wp2_with fail
  refine (dBelow c l.length (by omega) _ h).mono ?_
  rintro e w1 ⟨x, ⟨x0, x1, _⟩, rfl, hC1, hg1⟩
  obtain ⟨i, rfl⟩ := Int.eq_ofNat_of_zero_le x0
  have hi : i < l.length := by have := x1 (by omega); omega
  have hcell : w1.cell? ⟨b, o + i, none⟩ = some (.int .i64 l[i]) := by
    rw [← hR i hi]
    simp only [World.cell?, hg1.block b hb (by simpa using hbc)]
  have hm := Lib.hid (List.getElem_mem hi)
  clear x1 hR
  go_wp2
  go_ret
  exact ⟨_, hm.out, rfl, hC1, hg1⟩

/-- The cursor is whole, and of what lay in memory the cursor alone may have been written to. -/
def Dr (w : World) (c : Nat) (w' : World) : Prop := Cur w' c ∧ w.grownBy w' (some c)
theorem Dr.refl {w : World} {c : Nat} (h : Cur w c) : Dr w c w := ⟨h, grown_refl _ _⟩
theorem Dr.step {w w1 w2 : World} {c : Nat} (h : Dr w c w1) (hc : c < w.heap.size) (hb : Below w.heap.size w1 w2) : Dr w c w2 :=
  ⟨h.1.below hb hc, ⟨hb.os.trans h.2.os, hb.tape.trans h.2.tape, hb.output.trans h.2.output, Nat.le_trans h.2.size hb.size, fun k hk hn => (hb.block k hk).trans (h.2.block k hk hn)⟩⟩
theorem Dr.trans {w w1 w2 : World} {c : Nat} (h : Dr w c w1) (h2 : Dr w1 c w2) : Dr w c w2 := ⟨h2.1, grown_trans h.2 h2.2⟩
theorem Dr.size {w w' : World} {c : Nat} (h : Dr w c w') : w.heap.size ≤ w'.heap.size := h.2.size
theorem Dr.blk {w w' : World} {c b : Nat} {xs : List Value} {t : TypeId} (h : Dr w c w') (hB : Blk w b xs t) (hb : b ≠ c) : Blk w' b xs t := hB.grown h.2 hb
/-- A draw's outcome: a number of the ring; a number. -/
def DZ (w : World) (c : Nat) (e : Ending) (w' : World) : Prop := ∃ z : Z4, e = .returned (Zv z) ∧ Dr w c w'
def DD (w : World) (c : Nat) (e : Ending) (w' : World) : Prop := ∃ x : DO, e = .returned (Dv x) ∧ Dr w c w'

set_option maxRecDepth 100000 in
set_option maxHeartbeats 4000000 in
theorem dSmall (c : Nat) (w : World) (h : Cur w c) : Calls Try.prog 199 #[.pointer (some ⟨c, 0, none⟩)] w (DZ w c) := by
  have hc := h.lt
  go_enter Try.func199, Try.ntmps199
  go_wp2_with fail
  refine calls_gen fun W hW => ?_
  have hB : Blk W w.heap.size [.int .i64 0, .int .i64 0, .int .i64 0, .int .i64 0] 112 := by rw [hW]; exact Blk.new' _ _ rfl
  have hd : Dr w c W := (Dr.refl h).step hc (by rw [hW]; (repeat (first | with_reducible exact Below.refl _ _ | with_reducible assumption | with_reducible refine Below.setCell ?_ (by first | omega | (simp; done) | (simp; omega)) _ | with_reducible refine Below.alloc ?_ (by first | omega | (simp; done) | (simp; omega)) _ | with_reducible refine Below.drew ?_ | with_reducible refine belowDrewN ?_ _ | with_reducible refine Below.trans ?_ (Below.mono (by assumption) (by first | omega | (simp; done) | (simp; omega))))))
  have hne : w.heap.size ≠ c := by omega
  clear hW h
  refine (dBelow c 7 (by decide) _ hd.1).mono ?_
  rintro e w1 ⟨x, ⟨x0, x1, _⟩, rfl, hd1⟩
  have hx := x1 (by decide)
  go_wp2_with fail
  refine (dBelow c 7 (by decide) _ hd1.1).mono ?_
  rintro e w2 ⟨y, ⟨y0, y1, _⟩, rfl, hd2⟩
  have hy := y1 (by decide)
  go_wp2_with fail
  refine (dBelow c 7 (by decide) _ hd2.1).mono ?_
  rintro e w3 ⟨z, ⟨z0, z1, _⟩, rfl, hd3⟩
  have hz := z1 (by decide)
  go_wp2_with fail
  refine (dBelow c 7 (by decide) _ hd3.1).mono ?_
  rintro e w4 ⟨u, ⟨u0, u1, _⟩, rfl, hd4⟩
  have hu := u1 (by decide)
  have h14 : Dr W c w4 := Dr.trans (Dr.trans (Dr.trans hd1 hd2) hd3) hd4
  have hB4 := h14.blk hB hne
  have hd0 := Dr.trans hd h14
  obtain ⟨cB, fB, sB⟩ := hB4.facts
  clear x1 y1 z1 u1 hd1 hd2 hd3 hd4 hd h14
  go_wp2
  exact bodyPost_ret (v := Zv ⟨x - 3, y - 3, z - 3, u - 3⟩) (by simp [results, Try.results199, go_sem, *]) rfl ⟨_, rfl, hd0.step hc (by (repeat (first | with_reducible exact Below.refl _ _ | with_reducible assumption | with_reducible refine Below.setCell ?_ (by first | omega | (simp; done) | (simp; omega)) _ | with_reducible refine Below.alloc ?_ (by first | omega | (simp; done) | (simp; omega)) _ | with_reducible refine Below.drew ?_ | with_reducible refine belowDrewN ?_ _ | with_reducible refine Below.trans ?_ (Below.mono (by assumption) (by first | omega | (simp; done) | (simp; omega))))))⟩

theorem dPickNew (c cap : Nat) (l : List Int) (hl : 0 < l.length) (hn : l.length ≤ 1000) (w : World) (h : Cur w c) (xs : Array Value) (t : TypeId) (hxs : xs = (l.map (Value.int .i64)).toArray) :
    Calls Try.prog 151 #[.pointer (some ⟨c, 0, none⟩), .slice (some ⟨w.heap.size, 0, none⟩) l.length cap] (w.alloc (.cells xs t)) (DInt (w.alloc (.cells xs t)) c (· ∈ l)) := by
  have hc := h.lt
  subst hxs
  have hB := Blk.new w (l.map (Value.int .i64)) t
  refine dPick c w.heap.size 0 cap l hl hn _ (h.below ((Below.refl _ _).alloc (Nat.le_refl _) _) hc) (by omega) (by simp) fun i hi => ?_
  rw [Nat.zero_add, hB.cell i]
  simp [hi]

set_option maxRecDepth 100000 in
set_option maxHeartbeats 4000000 in
theorem dZw (c : Nat) (w : World) (h : Cur w c) : Calls Try.prog 200 #[.pointer (some ⟨c, 0, none⟩)] w (DZ w c) := by
  have hc := h.lt
  go_enter Try.func200, Try.ntmps200
  go_wp2_with fail
  refine calls_gen fun W hW => ?_
  have hB : Blk W w.heap.size [.int .i64 0, .int .i64 0, .int .i64 0, .int .i64 0] 112 := by rw [hW]; exact Blk.new' _ _ rfl
  have hd : Dr w c W := (Dr.refl h).step hc (by rw [hW]; (repeat (first | with_reducible exact Below.refl _ _ | with_reducible assumption | with_reducible refine Below.setCell ?_ (by first | omega | (simp; done) | (simp; omega)) _ | with_reducible refine Below.alloc ?_ (by first | omega | (simp; done) | (simp; omega)) _ | with_reducible refine Below.drew ?_ | with_reducible refine belowDrewN ?_ _ | with_reducible refine Below.trans ?_ (Below.mono (by assumption) (by first | omega | (simp; done) | (simp; omega))))))
  have hne : w.heap.size ≠ c := by omega
  clear hW h
  refine (dBelow c 4 (by decide) _ hd.1).mono ?_
  rintro e w1 ⟨x, ⟨x0, x1, _⟩, rfl, hd1⟩
  have hx := x1 (by decide)
  have hB1 := Dr.blk hd1 hB hne
  have h1 := Dr.trans hd hd1
  clear hd hd1 x1 hB
  have hx4 : x = 0 ∨ x = 1 ∨ x = 2 ∨ x = 3 := by omega
  rcases hx4 with rfl | rfl | rfl | rfl
  · go_wp2_with fail
    refine (dSmall c _ h1.1).mono ?_
    rintro e w2 ⟨⟨p, q, r, s⟩, rfl, hd2⟩
    have hB2 := Dr.blk hd2 hB1 hne
    have h2 := Dr.trans h1 hd2
    obtain ⟨cB, fB, sB⟩ := hB2.facts
    clear hd2 h1 hB1
    go_wp2
    exact bodyPost_ret (v := Zv ⟨p, q, r, s⟩) (by simp [results, Try.results200, go_sem, *]) rfl ⟨_, rfl, h2.step hc (by (repeat (first | with_reducible exact Below.refl _ _ | with_reducible assumption | with_reducible refine Below.setCell ?_ (by first | omega | (simp; done) | (simp; omega)) _ | with_reducible refine Below.alloc ?_ (by first | omega | (simp; done) | (simp; omega)) _ | with_reducible refine Below.drew ?_ | with_reducible refine belowDrewN ?_ _ | with_reducible refine Below.trans ?_ (Below.mono (by assumption) (by first | omega | (simp; done) | (simp; omega))))))⟩
  · go_wp2_with fail
    refine (dPickNew c _ [0, 1, -1, 1073741824, -1073741824, 1073741825, 32768, 9223372036854775807, -9223372036854775808] (by decide) (by decide) _ h1.1 _ _ rfl).mono ?_
    rintro e w2 ⟨p, -, rfl, hd2⟩
    have hs1 := h1.size
    have h2 := Dr.trans (h1.step hc (by (repeat (first | with_reducible exact Below.refl _ _ | with_reducible assumption | with_reducible refine Below.setCell ?_ (by first | omega | (simp; done) | (simp; omega)) _ | with_reducible refine Below.alloc ?_ (by first | omega | (simp; done) | (simp; omega)) _ | with_reducible refine Below.drew ?_ | with_reducible refine belowDrewN ?_ _ | with_reducible refine Below.trans ?_ (Below.mono (by assumption) (by first | omega | (simp; done) | (simp; omega))))))) hd2
    have hB2 := Dr.blk hd2 (hB1.alloc _) hne
    clear h1 hd2 hB1
    go_wp2_with fail
    refine (dPickNew c _ [0, 1, 1073741824, 32768] (by decide) (by decide) _ h2.1 _ _ rfl).mono ?_
    rintro e w3 ⟨q, -, rfl, hd3⟩
    have hs2 := h2.size
    have h3 := Dr.trans (h2.step hc (by (repeat (first | with_reducible exact Below.refl _ _ | with_reducible assumption | with_reducible refine Below.setCell ?_ (by first | omega | (simp; done) | (simp; omega)) _ | with_reducible refine Below.alloc ?_ (by first | omega | (simp; done) | (simp; omega)) _ | with_reducible refine Below.drew ?_ | with_reducible refine belowDrewN ?_ _ | with_reducible refine Below.trans ?_ (Below.mono (by assumption) (by first | omega | (simp; done) | (simp; omega))))))) hd3
    have hB3 := Dr.blk hd3 (hB2.alloc _) hne
    clear h2 hd3 hB2
    go_wp2_with fail
    refine (dBelow c 3 (by decide) _ h3.1).mono ?_
    rintro e w4 ⟨r, hr, rfl, hd4⟩
    have h4 := Dr.trans h3 hd4
    have hB4 := Dr.blk hd4 hB3 hne
    obtain ⟨cB, fB, sB⟩ := hB4.facts
    clear h3 hd4 hB3 hr
    go_wp2
    exact bodyPost_ret (v := Zv ⟨p, q, 0, r⟩) (by simp [results, Try.results200, go_sem, *]) rfl ⟨_, rfl, h4.step hc (by (repeat (first | with_reducible exact Below.refl _ _ | with_reducible assumption | with_reducible refine Below.setCell ?_ (by first | omega | (simp; done) | (simp; omega)) _ | with_reducible refine Below.alloc ?_ (by first | omega | (simp; done) | (simp; omega)) _ | with_reducible refine Below.drew ?_ | with_reducible refine belowDrewN ?_ _ | with_reducible refine Below.trans ?_ (Below.mono (by assumption) (by first | omega | (simp; done) | (simp; omega))))))⟩
  all_goals
    go_wp2_with fail
    refine (dBelow c 60000 (by decide) _ h1.1).mono ?_
    rintro e w2 ⟨p, ⟨p0, p1, _⟩, rfl, hd2⟩
    have hp := p1 (by decide)
    have hB2 := Dr.blk hd2 hB1 hne
    have h2 := Dr.trans h1 hd2
    clear h1 hd2 hB1 p1
    go_wp2_with fail
    refine (dBelow c 60000 (by decide) _ h2.1).mono ?_
    rintro e w3 ⟨q, ⟨q0, q1, _⟩, rfl, hd3⟩
    have hq := q1 (by decide)
    have hB3 := Dr.blk hd3 hB2 hne
    have h3 := Dr.trans h2 hd3
    clear h2 hd3 hB2 q1
    go_wp2_with fail
    refine (dBelow c 300 (by decide) _ h3.1).mono ?_
    rintro e w4 ⟨r, ⟨r0, r1, _⟩, rfl, hd4⟩
    have hr := r1 (by decide)
    have hB4 := Dr.blk hd4 hB3 hne
    have h4 := Dr.trans h3 hd4
    clear h3 hd4 hB3 r1
    go_wp2_with fail
    refine (dBelow c 300 (by decide) _ h4.1).mono ?_
    rintro e w5 ⟨s, ⟨s0, s1, _⟩, rfl, hd5⟩
    have hs := s1 (by decide)
    have hB5 := Dr.blk hd5 hB4 hne
    have h5 := Dr.trans h4 hd5
    obtain ⟨cB, fB, sB⟩ := hB5.facts
    clear h4 hd5 hB4 s1
    go_wp2
    exact bodyPost_ret (v := Zv ⟨p - 30000, q - 30000, r - 150, s - 150⟩) (by simp [results, Try.results200, go_sem, *]) rfl ⟨_, rfl, h5.step hc (by (repeat (first | with_reducible exact Below.refl _ _ | with_reducible assumption | with_reducible refine Below.setCell ?_ (by first | omega | (simp; done) | (simp; omega)) _ | with_reducible refine Below.alloc ?_ (by first | omega | (simp; done) | (simp; omega)) _ | with_reducible refine Below.drew ?_ | with_reducible refine belowDrewN ?_ _ | with_reducible refine Below.trans ?_ (Below.mono (by assumption) (by first | omega | (simp; done) | (simp; omega))))))⟩

end Go.Proofs.Yteckhaafdojoeaa

/-! D3: Draws: numbers of D[omega] (l3Dw, l3Bent). -/
namespace Go.Proofs.Yteckhaafdojoeaa
open Go.RowKit BigFrame

theorem sNew' (z : Z4) (k : Int) (w : World) : Calls Try.prog 170 #[Zv z, .int .i64 k] w fun e w' => e = .returned (.tuple #[Dv (newD z k).1, .bool (newD z k).2]) ∧ Below w.heap.size w w' := sNew _ _ _ _ _ _

set_option maxRecDepth 100000 in
set_option maxHeartbeats 4000000 in
theorem dDw (c : Nat) (w : World) (h : Cur w c) : Calls Try.prog 179 #[.pointer (some ⟨c, 0, none⟩)] w (DD w c) := by
  have hc := h.lt
  go_enter Try.func179, Try.ntmps179
  go_wp2_with fail
  refine calls_gen fun W hW => ?_
  have hB : Blk W w.heap.size [.int .i64 0, .int .i64 0, .int .i64 0, .int .i64 0, .int .i64 0] 114 := by rw [hW]; exact Blk.new' _ _ rfl
  have hd : Dr w c W := (Dr.refl h).step hc (by rw [hW]; (repeat (first | with_reducible exact Below.refl _ _ | with_reducible assumption | with_reducible refine Below.setCell ?_ (by first | omega | (simp; done) | (simp; omega)) _ | with_reducible refine Below.alloc ?_ (by first | omega | (simp; done) | (simp; omega)) _ | with_reducible refine Below.drew ?_ | with_reducible refine belowDrewN ?_ _ | with_reducible refine Below.trans ?_ (Below.mono (by assumption) (by first | omega | (simp; done) | (simp; omega))))))
  have hne : w.heap.size ≠ c := by omega
  clear hW h
  refine (dSmall c _ hd.1).mono ?_
  rintro e w1 ⟨z, rfl, hd1⟩
  have hB1 := Dr.blk hd1 hB hne
  have h1 := Dr.trans hd hd1
  clear hd hd1 hB
  go_wp2_with fail
  refine (dBelow c 6 (by decide) _ h1.1).mono ?_
  rintro e w2 ⟨k, hk, rfl, hd2⟩
  have hB2 := Dr.blk hd2 hB1 hne
  have h2 := Dr.trans h1 hd2
  have hs2 := h2.size
  clear h1 hd2 hB1 hk
  obtain ⟨x, m, hx⟩ : ∃ x m, newD z k = (x, m) := ⟨_, _, rfl⟩
  have hN : ∀ w, Calls Try.prog 170 #[Zv z, .int .i64 k] w fun e w' => e = .returned (.tuple #[Dv x, .bool m]) ∧ Below w.heap.size w w' := fun w => by
    have := sNew' z k w
    rwa [hx] at this
  clear hx
  go_wp2_with fail
  refine (hN _).mono ?_
  rintro e w3 ⟨rfl, hb3⟩
  have hs3 := hb3.size
  have hB3 := hB2.below hb3 hB2.lt
  have h3 := h2.step hc (hb3.mono hs2)
  obtain ⟨cB, fB, sB⟩ := hB3.facts
  clear h2 hB2 hb3 hN
  go_wp2
  exact bodyPost_ret (v := Dv x) (by simp [results, Try.results179, go_sem, *]) rfl ⟨_, rfl, h3.step hc (by (repeat (first | with_reducible exact Below.refl _ _ | with_reducible assumption | with_reducible refine Below.setCell ?_ (by first | omega | (simp; done) | (simp; omega)) _ | with_reducible refine Below.alloc ?_ (by first | omega | (simp; done) | (simp; omega)) _ | with_reducible refine Below.drew ?_ | with_reducible refine belowDrewN ?_ _ | with_reducible refine Below.trans ?_ (Below.mono (by assumption) (by first | omega | (simp; done) | (simp; omega))))))⟩

set_option maxRecDepth 100000 in
set_option maxHeartbeats 4000000 in
theorem dBent (c : Nat) (w : World) (h : Cur w c) : Calls Try.prog 180 #[.pointer (some ⟨c, 0, none⟩)] w (DD w c) := by
  have hc := h.lt
  go_enter Try.func180, Try.ntmps180
  go_wp2_with fail
  refine calls_gen fun W hW => ?_
  have hB : Blk W w.heap.size [.int .i64 0, .int .i64 0, .int .i64 0, .int .i64 0, .int .i64 0] 114 := by rw [hW]; exact Blk.new' _ _ rfl
  have hd : Dr w c W := (Dr.refl h).step hc (by rw [hW]; (repeat (first | with_reducible exact Below.refl _ _ | with_reducible assumption | with_reducible refine Below.setCell ?_ (by first | omega | (simp; done) | (simp; omega)) _ | with_reducible refine Below.alloc ?_ (by first | omega | (simp; done) | (simp; omega)) _ | with_reducible refine Below.drew ?_ | with_reducible refine belowDrewN ?_ _ | with_reducible refine Below.trans ?_ (Below.mono (by assumption) (by first | omega | (simp; done) | (simp; omega))))))
  have hne : w.heap.size ≠ c := by omega
  clear hW h
  refine (dBelow c 6 (by decide) _ hd.1).mono ?_
  rintro e w1 ⟨x, ⟨x0, x1, _⟩, rfl, hd1⟩
  have hx := x1 (by decide)
  have hB1 := Dr.blk hd1 hB hne
  have h1 := Dr.trans hd hd1
  clear hd hd1 x1 hB
  by_cases hx0 : x = 0
  · subst hx0
    go_wp2_with fail
    refine (dZw c _ h1.1).mono ?_
    rintro e w2 ⟨z, rfl, hd2⟩
    have hB2 := Dr.blk hd2 hB1 hne
    have h2 := Dr.trans h1 hd2
    have hs2 := h2.size
    clear hd2 h1 hB1
    go_wp2_with fail
    refine (dPickNew c _ [0, 1, 59, 60, 61] (by decide) (by decide) _ h2.1 _ _ rfl).mono ?_
    rintro e w3 ⟨k, -, rfl, hd3⟩
    have h3 := Dr.trans (h2.step hc (by (repeat (first | with_reducible exact Below.refl _ _ | with_reducible assumption | with_reducible refine Below.setCell ?_ (by first | omega | (simp; done) | (simp; omega)) _ | with_reducible refine Below.alloc ?_ (by first | omega | (simp; done) | (simp; omega)) _ | with_reducible refine Below.drew ?_ | with_reducible refine belowDrewN ?_ _ | with_reducible refine Below.trans ?_ (Below.mono (by assumption) (by first | omega | (simp; done) | (simp; omega))))))) hd3
    have hB3 := Dr.blk hd3 (hB2.alloc _) hne
    have hs3 := h3.size
    clear h2 hd3 hB2
    obtain ⟨x, m, hx⟩ : ∃ x m, newD z k = (x, m) := ⟨_, _, rfl⟩
    have hN : ∀ w, Calls Try.prog 170 #[Zv z, .int .i64 k] w fun e w' => e = .returned (.tuple #[Dv x, .bool m]) ∧ Below w.heap.size w w' := fun w => by
      have := sNew' z k w
      rwa [hx] at this
    clear hx
    go_wp2_with fail
    refine (hN _).mono ?_
    rintro e w4 ⟨rfl, hb4⟩
    have hs4 := hb4.size
    have hB4 := hB3.below hb4 hB3.lt
    have h4 := h3.step hc (hb4.mono hs3)
    obtain ⟨cB, fB, sB⟩ := hB4.facts
    clear h3 hB3 hb4 hN
    go_wp2
    exact bodyPost_ret (v := Dv x) (by simp [results, Try.results180, go_sem, *]) rfl ⟨_, rfl, h4.step hc (by (repeat (first | with_reducible exact Below.refl _ _ | with_reducible assumption | with_reducible refine Below.setCell ?_ (by first | omega | (simp; done) | (simp; omega)) _ | with_reducible refine Below.alloc ?_ (by first | omega | (simp; done) | (simp; omega)) _ | with_reducible refine Below.drew ?_ | with_reducible refine belowDrewN ?_ _ | with_reducible refine Below.trans ?_ (Below.mono (by assumption) (by first | omega | (simp; done) | (simp; omega))))))⟩
  · by_cases hx1 : x = 1
    · subst hx1
      go_wp2_with fail
      refine (dZw c _ h1.1).mono ?_
      rintro e w2 ⟨⟨p, q, r, s⟩, rfl, hd2⟩
      have hB2 := Dr.blk hd2 hB1 hne
      have h2 := Dr.trans h1 hd2
      have hs2 := h2.size
      clear hd2 h1 hB1
      go_wp2_with fail
      refine (dPickNew c _ [0, 1, 5, 60, 61, -1] (by decide) (by decide) _ h2.1 _ _ rfl).mono ?_
      rintro e w3 ⟨k, -, rfl, hd3⟩
      have h3 := Dr.trans (h2.step hc (by (repeat (first | with_reducible exact Below.refl _ _ | with_reducible assumption | with_reducible refine Below.setCell ?_ (by first | omega | (simp; done) | (simp; omega)) _ | with_reducible refine Below.alloc ?_ (by first | omega | (simp; done) | (simp; omega)) _ | with_reducible refine Below.drew ?_ | with_reducible refine belowDrewN ?_ _ | with_reducible refine Below.trans ?_ (Below.mono (by assumption) (by first | omega | (simp; done) | (simp; omega))))))) hd3
      have hB3 := Dr.blk hd3 (hB2.alloc _) hne
      obtain ⟨cB, fB, sB⟩ := hB3.facts
      clear h2 hd3 hB2
      go_wp2
      exact bodyPost_ret (v := Dv ⟨⟨p, q, r, s⟩, k⟩) (by simp [results, Try.results180, go_sem, *]) rfl ⟨_, rfl, h3.step hc (by (repeat (first | with_reducible exact Below.refl _ _ | with_reducible assumption | with_reducible refine Below.setCell ?_ (by first | omega | (simp; done) | (simp; omega)) _ | with_reducible refine Below.alloc ?_ (by first | omega | (simp; done) | (simp; omega)) _ | with_reducible refine Below.drew ?_ | with_reducible refine belowDrewN ?_ _ | with_reducible refine Below.trans ?_ (Below.mono (by assumption) (by first | omega | (simp; done) | (simp; omega))))))⟩
    · have hn0 : (x == 0) = false := by simpa using hx0
      have hn1 : (x == 1) = false := by simpa using hx1
      go_wp2_with fail
      refine (dDw c _ h1.1).mono ?_
      rintro e w2 ⟨⟨⟨p, q, r, s⟩, k⟩, rfl, hd2⟩
      have hB2 := Dr.blk hd2 hB1 hne
      have h2 := Dr.trans h1 hd2
      obtain ⟨cB, fB, sB⟩ := hB2.facts
      clear hd2 h1 hB1
      go_wp2
      exact bodyPost_ret (v := Dv ⟨⟨p, q, r, s⟩, k⟩) (by simp [results, Try.results180, go_sem, *]) rfl ⟨_, rfl, h2.step hc (by (repeat (first | with_reducible exact Below.refl _ _ | with_reducible assumption | with_reducible refine Below.setCell ?_ (by first | omega | (simp; done) | (simp; omega)) _ | with_reducible refine Below.alloc ?_ (by first | omega | (simp; done) | (simp; omega)) _ | with_reducible refine Below.drew ?_ | with_reducible refine belowDrewN ?_ _ | with_reducible refine Below.trans ?_ (Below.mono (by assumption) (by first | omega | (simp; done) | (simp; omega))))))⟩

end Go.Proofs.Yteckhaafdojoeaa

/-! D4: Draws: permutations (IdentityPermutation, l8Perm, l8Bent, DrawPermutationMatrix). -/
namespace Go.Proofs.Yteckhaafdojoeaa
open Go.RowKit BigFrame

theorem OwnF.intAt {w : World} {base n cap g : Nat} {l : List Int} (h : OwnI w base (.slice (some ⟨g, 0, none⟩) n cap) l) {j : Nat} (hj : j < l.length) : w.cell? ⟨g, j, none⟩ = some (.int .i64 l[j]) := by
  obtain ⟨ao, c, e, hR, _⟩ := h.read icells_len
  cases e
  obtain ⟨b, o, e, _, hD⟩ := hR.int hj
  cases e
  simpa using hD
theorem icells_set : ∀ (l : List Int) (i : Nat) (x : Int), i < l.length → (flatC icells l).set i (.int .i64 x) = flatC icells (l.set i x)
  | y :: l, 0, x, _ => by simp [flatC, icells]
  | y :: l, i + 1, x, h => by
    have := icells_set l i x (by simpa using h)
    simp only [flatC, List.flatMap_cons, List.set_cons_succ, icells] at *
    simp only [List.cons_append, List.nil_append, List.set_cons_succ]
    rw [this]
theorem OwnF.setInt {w : World} {base g n cap : Nat} {l : List Int} (h : OwnI w base (.slice (some ⟨g, 0, none⟩) n cap) l) {i : Nat} (hi : i < l.length) (x : Int) :
    OwnI (w.setCell ⟨g, i, none⟩ (.int .i64 x)) base (.slice (some ⟨g, 0, none⟩) n cap) (l.set i x) := by
  have hn : n = l.length := by
    obtain ⟨ao, c, e, _⟩ := h.read icells_len
    cases e
    rfl
  subst hn
  unfold OwnI OwnF at *
  rw [List.length_set, ← icells_set l i x hi]
  exact (World.ownsRow.stored h i (.int .i64 x)).1
theorem flatC_take {α : Type} {c : α → List Value} {K : Nat} (hc : ∀ x, (c x).length = K) : ∀ (l : List α) (k : Nat), flatC c (l.take k) = (flatC c l).take (k * K)
  | [], k => by simp [flatC]
  | x :: l, 0 => by simp [flatC]
  | x :: l, k + 1 => by
    have := flatC_take hc l k
    simp only [flatC, List.take_succ_cons, List.flatMap_cons] at *
    have e1 : (c x).take ((k + 1) * K) = c x := List.take_of_length_le (by rw [hc, Nat.add_mul]; omega)
    have e2 : (k + 1) * K - K = k * K := by rw [Nat.add_mul]; omega
    rw [List.take_append, e1, hc, e2, this]
/-- The first k of a row of the call's own. -/
theorem OwnF.take {α : Type} {c : α → List Value} {K : Nat} {T : TypeId} (hc : ∀ x, (c x).length = K) {w : World} {base g n cap : Nat} {l : List α} (h : OwnF c K T w base (.slice (some ⟨g, 0, none⟩) n cap) l) {k : Nat} (hk : k ≤ l.length) :
    OwnF c K T w base (.slice (some ⟨g, 0, none⟩) k cap) (l.take k) := by
  have hlk : (l.take k).length = k := by rw [List.length_take]; omega
  unfold OwnF
  rw [hlk, flatC_take hc]
  refine ⟨by rw [List.length_take, flatC_length hc]; have := Nat.mul_le_mul_right K hk; omega, ?_⟩
  rcases h.2 with ⟨e, _⟩ | ⟨g', cap', cur, e, hbg, hg, hn, hcp, hs, ht⟩
  · cases e
  · cases e
    refine .inr ⟨g, cap, cur, rfl, hbg, hg, by omega, hcp, hs, ?_⟩
    rw [← ht, List.take_take]
    congr 1
    have := Nat.mul_le_mul_right K hk
    omega
/-- A row of whole numbers with one more. -/
theorem OwnI.push {w : World} {base : Nat} {v : Value} {l : List Int} {x : Int} (h : w.ownsRow base TN 1 v (l.length + 1) (flatC icells l ++ [.int .i64 x])) : OwnI w base v (l ++ [x]) := OwnF.snoc (c := icells) h

/-- A draw's outcome: a row of whole numbers. -/
def DI (w : World) (c : Nat) (P : List Int → Prop) (e : Ending) (w' : World) : Prop := ∃ v p, e = .returned v ∧ P p ∧ OwnI w' w.heap.size v p ∧ Dr w c w'
def OutI (w : World) (P : List Int → Prop) (e : Ending) (w' : World) : Prop := ∃ v p, e = .returned v ∧ P p ∧ OwnI w' w.heap.size v p ∧ Below w.heap.size w w'

set_option maxRecDepth 100000 in
set_option maxHeartbeats 4000000 in
theorem sIdentityPerm (n : Nat) (h1 : 1 ≤ n) (h4 : n ≤ 4) (w : World) :
    Calls Try.prog 187 #[.int .i64 n] w (OutI w (fun p => p.length = n)) := by
  obtain ⟨iN, hiN, hzN0, hzN1, hzN2⟩ := info_parts infoN
  have hin : inR 1 4 (n : Int) = true := (inR_iff _ _ _).2 (by omega)
  go_enter Try.func187, Try.ntmps187
  go_wp2
  have hS0 : OwnI (w.alloc (.cells #[] TN)) w.heap.size (.slice (some ⟨w.heap.size, 0, none⟩) 0 0) [] := OwnF.empty rfl (Nat.le_refl _)
  go_loopw [3, 4] (fun y z wr => ∃ (j : Nat) (p : List Int), z = .int .i64 j ∧ j ≤ n ∧ p.length = j ∧ OwnI wr w.heap.size y p ∧ Below w.heap.size w wr) (fun _ z _ => n - (intOf z).toNat)
  case atStart => exact ⟨0, [], rfl, Nat.zero_le _, rfl, hS0, by (repeat (first | with_reducible exact Below.refl _ _ | with_reducible assumption | with_reducible refine Below.setCell ?_ (by first | omega | (simp; done) | (simp; omega)) _ | with_reducible refine Below.alloc ?_ (by first | omega | (simp; done) | (simp; omega)) _ | with_reducible refine Below.drew ?_ | with_reducible refine belowDrewN ?_ _ | with_reducible refine Below.trans ?_ (Below.mono (by assumption) (by first | omega | (simp; done) | (simp; omega)))))⟩
  case round =>
    obtain ⟨j, p, rfl, j0, hpl, hS, hb⟩ := hrel
    have hs := hb.size
    have HP := Lib.hid hpl
    clear hpl
    obtain ⟨yo, yc, rfl, _, _, _⟩ := hS.read icells_len
    by_cases hj : j < n
    · have hd : decide (j < n) = true := by simpa using hj
      have hS1 : wr.ownsRow w.heap.size TN 1 (.slice yo p.length yc) p.length (flatC icells p) := hS
      rw [HP.out] at hS1 ⊢
      go_wp2_with (first | (go_at_call 102; refine (sIn _ _ _ _).mono ?_; rintro e w1 ⟨rfl, rfl⟩) | (at_builtin; refine wpList_append_own _ rfl _ _ 24 rfl w.heap.size TN iN _ 1 8 Try.underlying24 hiN hzN0 hzN1 hzN2 rfl (by decide) _ _ _ rfl (World.ownsRow.alloc hS1 _) ⟨wr.heap.size, 0, none⟩ 1 1 [.int .i64 j] rfl rfl ?c1 ?c2 ?c3 ?c4 ?c5 ?_))
      case c1 => exact at_new _ [Value.int .i64 j] _
      case c2 => intro u hu; simp only [List.mem_cons, List.not_mem_nil, or_false] at hu; subst hu; rfl
      case c3 => unfold maxLen; omega
      case c4 => omega
      case c5 => simp; omega
      intro v' w' hown' hgrow _
      have hS2 : OwnI w' w.heap.size v' (p ++ [(j : Int)]) := OwnI.push (by rw [HP.out]; exact hown')
      have hbb : Below w.heap.size w w' := (hb.alloc (by omega) _).grown hgrow (by simp; omega) fun g hg => (OwnF.lt hS g (by rw [HP.out]; exact hg)).1
      clear hown' hgrow hS1
      go_wp2
      go_roundw
      case rel => exact ⟨j + 1, _, by go_num, by omega, by rw [List.length_append, HP.out]; rfl, hS2, hbb⟩
      case measure => simp [intOf]; omega
    · have hd : decide (j < n) = false := by simpa using hj
      have hjn : p.length = n := by rw [HP.out]; omega
      have HJ := Lib.hid hjn
      clear hjn
      go_wp2_with (go_at_call 102; refine (sIn _ _ _ _).mono ?_; rintro e w1 ⟨rfl, rfl⟩)
      all_goals go_ret
      all_goals exact ⟨_, p, rfl, HJ.out, hS, hb⟩

theorem OwnF.dr {α : Type} {c : α → List Value} {K : Nat} {T : TypeId} {w w' : World} {cu base : Nat} {v : Value} {l : List α} (h : OwnF c K T w base v l) (hd : Dr w cu w') (hc : cu < base) : OwnF c K T w' base v l :=
  h.frame fun g h1 h2 => hd.2.block g h2 (by simp; omega)

set_option maxRecDepth 100000 in
set_option maxHeartbeats 4000000 in
theorem dPerm (c : Nat) (n : Nat) (h1 : 1 ≤ n) (h4 : n ≤ 4) (w : World) (h : Cur w c) :
    Calls Try.prog 152 #[.pointer (some ⟨c, 0, none⟩), .int .i64 n] w (DI w c (fun p => p.length = n)) := by
  have hc := h.lt
  go_enter Try.func152, Try.ntmps152
  go_wp2_with fail
  refine (sIdentityPerm n h1 h4 _).mono ?_
  rintro e w1 ⟨v, p, rfl, hpl, hS, hb1⟩
  obtain ⟨vo, vc, rfl, _, _, _⟩ := hS.read icells_len
  obtain ⟨g, rfl, hgb, hgs⟩ := hS.block (by omega)
  rw [hpl] at hS ⊢
  have HPL := Lib.hid hpl
  have hd1 : Dr w c w1 := (Dr.refl h).step hc hb1
  have hin : ((n : Int) - 1) = ((n - 1 : Nat) : Int) := by omega
  clear hpl hb1 h
  go_wp2
  go_loopw [6] (fun z wr => ∃ (i : Nat) (p : List Int), z = .int .i64 i ∧ i < n ∧ Hid (p.length = n) ∧ OwnI wr w.heap.size (.slice (some ⟨g, 0, none⟩) n vc) p ∧ g < wr.heap.size ∧ Dr w c wr) (fun z _ => (intOf z).toNat)
  case atStart => exact ⟨n - 1, p, by rw [← hin], by omega, HPL, hS, hgs, hd1⟩
  case round =>
    obtain ⟨i, p, rfl, hi, HP, hS, hgs, hd⟩ := hrel
    have hs := hd.size
    clear hin
    by_cases hi0 : 0 < i
    · go_wp2_with fail
      refine (dBelow c _ (by omega) _ hd.1).mono ?_
      rintro e w2 ⟨k, ⟨k0, k1, _⟩, rfl, hd2⟩
      have hki := k1 (by omega)
      obtain ⟨k, rfl⟩ := Int.eq_ofNat_of_zero_le k0
      have hkn : k < n := by omega
      have hS2 := hS.dr hd2 hc
      have hd3 := Dr.trans hd hd2
      have hs3 := Dr.size hd2
      have hip : i < p.length := by rw [HP.out]; exact hi
      have hkp : k < p.length := by rw [HP.out]; exact hkn
      have ci := hS2.intAt hip
      have ck := hS2.intAt hkp
      have fz := hS2.frozen
      have hS3 := hS2.setInt hip p[k]
      have ck3 := hS3.intAt (j := k) (by rw [List.length_set]; exact hkp)
      have fz3 := hS3.frozen
      have hS4 := hS3.setInt (i := k) (by rw [List.length_set]; exact hkp) p[i]
      have HS4 := Lib.hid hS4
      have hl4 : Hid ((((p.set i p[k]).set k p[i])).length = n) := by simp only [Hid, List.length_set]; exact HP.out
      obtain ⟨pk3, hpk3⟩ : ∃ x, x = (p.set i p[k])[k]'(by rw [List.length_set]; exact hkp) := ⟨_, rfl⟩
      rw [← hpk3] at ck3
      have hd5 : Dr w c ((w2.setCell ⟨g, i, none⟩ (.int .i64 p[k])).setCell ⟨g, k, none⟩ (.int .i64 p[i])) := hd3.step hc (by (repeat (first | with_reducible exact Below.refl _ _ | with_reducible assumption | with_reducible refine Below.setCell ?_ (by first | omega | (simp; done) | (simp; omega)) _ | with_reducible refine Below.alloc ?_ (by first | omega | (simp; done) | (simp; omega)) _ | with_reducible refine Below.drew ?_ | with_reducible refine belowDrewN ?_ _ | with_reducible refine Below.trans ?_ (Below.mono (by assumption) (by first | omega | (simp; done) | (simp; omega))))))
      have hg5 : g < ((w2.setCell ⟨g, i, none⟩ (.int .i64 p[k])).setCell ⟨g, k, none⟩ (.int .i64 p[i])).heap.size := by simp; omega
      have HD5 := Lib.hid (And.intro hg5 hd5)
      have hin : ((i : Int) - 1) = ((i - 1 : Nat) : Int) := by omega
      have HIN := Lib.hid hin
      have hgs2 : g < w2.heap.size := by omega
      clear hS hS2 hS3 hS4 hd hd2 hd3 k1 hpk3 hd5 hg5 hin
      go_wp2
      go_roundw
      case rel => exact ⟨i - 1, _, by rw [HIN.out], by omega, hl4, HS4.out, HD5.out.1, HD5.out.2⟩
      case measure => simp [intOf]; omega
    · go_wp2
      go_ret
      exact ⟨_, p, rfl, HP.out, hS, hd⟩

set_option maxRecDepth 100000 in
set_option maxHeartbeats 8000000 in
theorem dPermBent (c : Nat) (w : World) (h : Cur w c) :
    Calls Try.prog 94 #[.pointer (some ⟨c, 0, none⟩)] w (DI w c (fun p => p.length ≤ 5)) := by
  have hc := h.lt
  obtain ⟨iN, hiN, hzN0, hzN1, hzN2⟩ := info_parts infoN
  go_enter Try.func94, Try.ntmps94
  go_wp2_with fail
  refine (dBelow c 4 (by decide) _ h).mono ?_
  rintro e w1 ⟨x, ⟨x0, x1, _⟩, rfl, hd1⟩
  have hx := x1 (by decide)
  obtain ⟨n, hn⟩ : ∃ n : Nat, (1 : Int) + x = n := ⟨(1 + x).toNat, by omega⟩
  have hn1 : 1 ≤ n := by omega
  have hn4 : n ≤ 4 := by omega
  have HN := Lib.hid hn
  clear x1 hn
  go_wp2_with fail
  rw [HN.out]
  refine (dPerm c n hn1 hn4 _ hd1.1).mono ?_
  rintro e w2 ⟨v, p, rfl, hpl, hS, hd2⟩
  have hs2 := Dr.size hd1
  have h2 := Dr.trans hd1 hd2
  have hS2 := hS.mono hs2
  obtain ⟨vo, vc, rfl, _, hvc1, hvc2⟩ := hS2.read icells_len
  obtain ⟨g, rfl, hgb, hgs⟩ := hS2.block (by omega)
  have hS3 := hS2
  rw [hpl] at hS3 hvc1 ⊢
  have HPL := Lib.hid hpl
  clear hpl hd1 hd2 hS HN
  go_wp2_with fail
  refine (dBelow c 8 (by decide) _ h2.1).mono ?_
  rintro e w3 ⟨k, ⟨k0, k1, _⟩, rfl, hd3⟩
  have hk := k1 (by decide)
  have hS4 := hS3.dr hd3 hc
  have h3 := Dr.trans h2 hd3
  have hs3 := Dr.size hd3
  have hgs3 : g < w3.heap.size := by omega
  clear hd3 hS3 hS2 h2 k1
  by_cases hk0 : k = 0
  · subst hk0
    go_wp2_with fail
    refine (dBelow c n (by omega) _ h3.1).mono ?_
    rintro e w4 ⟨j, ⟨j0, j1, _⟩, rfl, hd4⟩
    have hj := j1 (by omega)
    obtain ⟨j, rfl⟩ := Int.eq_ofNat_of_zero_le j0
    have hS5 := hS4.dr hd4 hc
    have h4 := Dr.trans h3 hd4
    have hs4 := Dr.size hd4
    have hs04 := Dr.size h4
    clear j1 hd4 hS4 h3
    go_wp2_with fail
    refine (dPickNew c _ [0, 1, 4, -1, 9223372036854775807] (by decide) (by decide) _ h4.1 _ _ rfl).mono ?_
    rintro e w5 ⟨q, -, rfl, hd5⟩
    have h5 := Dr.trans (h4.step hc (by (repeat (first | with_reducible exact Below.refl _ _ | with_reducible assumption | with_reducible refine Below.setCell ?_ (by first | omega | (simp; done) | (simp; omega)) _ | with_reducible refine Below.alloc ?_ (by first | omega | (simp; done) | (simp; omega)) _ | with_reducible refine Below.drew ?_ | with_reducible refine belowDrewN ?_ _ | with_reducible refine Below.trans ?_ (Below.mono (by assumption) (by first | omega | (simp; done) | (simp; omega))))))) hd5
    have hS6 := (hS5.alloc _).dr hd5 hc
    have hs5 := Dr.size hd5
    rw [World.size_alloc] at hs5
    have hjp : j < p.length := by rw [HPL.out]; omega
    have cj := hS6.intAt hjp
    have fz := hS6.frozen
    have HS7 := Lib.hid (hS6.setInt hjp q)
    have hl7 : Hid ((p.set j q).length ≤ 5) := by simp only [Hid, List.length_set, HPL.out]; omega
    have HD := Lib.hid (h5.step (w2 := w5.setCell ⟨g, j, none⟩ (.int .i64 q)) hc (by (repeat (first | with_reducible exact Below.refl _ _ | with_reducible assumption | with_reducible refine Below.setCell ?_ (by first | omega | (simp; done) | (simp; omega)) _ | with_reducible refine Below.alloc ?_ (by first | omega | (simp; done) | (simp; omega)) _ | with_reducible refine Below.drew ?_ | with_reducible refine belowDrewN ?_ _ | with_reducible refine Below.trans ?_ (Below.mono (by assumption) (by first | omega | (simp; done) | (simp; omega)))))))
    have hgs5 : g < w5.heap.size := by omega
    clear h4 hd5 hS5 hS6 h5
    go_wp2
    go_ret
    exact ⟨_, _, rfl, hl7.out, HS7.out, HD.out⟩
  · by_cases hk1 : k = 1
    · subst hk1
      go_wp2_with fail
      refine (dBelow c n (by omega) _ h3.1).mono ?_
      rintro e w4 ⟨j, ⟨j0, j1, _⟩, rfl, hd4⟩
      have hj := j1 (by omega)
      obtain ⟨j, rfl⟩ := Int.eq_ofNat_of_zero_le j0
      have hS5 := hS4.dr hd4 hc
      have h4 := Dr.trans h3 hd4
      have hjp : j ≤ p.length := by rw [HPL.out]; omega
      have HS6 := Lib.hid (hS5.take icells_len hjp)
      have hl7 : Hid ((p.take j).length ≤ 5) := by simp only [Hid, List.length_take, HPL.out]; omega
      have hjc : j ≤ vc := by omega
      clear j1 hd4 hS4 h3 hS5
      go_wp2
      go_ret
      exact ⟨_, _, rfl, hl7.out, HS6.out, h4⟩
    · by_cases hk2 : k = 2
      · subst hk2
        have hS1 : w3.ownsRow w.heap.size TN 1 (.slice (some ⟨g, 0, none⟩) n vc) n (flatC icells p) := by
          have := hS4
          unfold OwnI OwnF at this
          rwa [HPL.out] at this
        have hs03 := Dr.size h3
        go_wp2_with (at_builtin; refine wpList_append_own _ rfl _ _ 24 rfl w.heap.size TN iN _ 1 8 Try.underlying24 hiN hzN0 hzN1 hzN2 rfl (by decide) _ _ _ rfl (World.ownsRow.alloc hS1 _) ⟨w3.heap.size, 0, none⟩ 1 1 [.int .i64 n] rfl rfl ?c1 ?c2 ?c3 ?c4 ?c5 ?_)
        case c1 => exact at_new _ [Value.int .i64 n] _
        case c2 => intro u hu; simp only [List.mem_cons, List.not_mem_nil, or_false] at hu; subst hu; rfl
        case c3 => unfold maxLen; omega
        case c4 => omega
        case c5 => simp; omega
        intro v' w' hown' hgrow _
        have hS2 : OwnI w' w.heap.size v' (p ++ [(n : Int)]) := OwnI.push (by rw [HPL.out]; exact hown')
        have hbb : Below w.heap.size w3 w' := ((Below.refl _ _).alloc (by omega) _).grown hgrow (by simp; omega) fun a ha => by cases ha; exact hgb
        have hD := h3.step hc hbb
        have hl7 : Hid ((p ++ [(n : Int)]).length ≤ 5) := by simp only [Hid, List.length_append, HPL.out, List.length_cons, List.length_nil]; omega
        clear hown' hgrow hS1 hbb hS4 h3
        go_wp2
        go_ret
        exact ⟨_, _, rfl, hl7.out, hS2, hD⟩
      · have e0 : (k == 0) = false := by simpa using hk0
        have e1 : (k == 1) = false := by simpa using hk1
        have e2 : (k == 2) = false := by simpa using hk2
        have hl7 : Hid (p.length ≤ 5) := by simp only [Hid, HPL.out]; omega
        go_wp2
        go_ret
        exact ⟨_, p, rfl, hl7.out, hS4, h3⟩

set_option maxRecDepth 100000 in
set_option maxHeartbeats 4000000 in
theorem dDrawPermMat (ao : Option Addr) (l : List Int) (cap : Nat) (hn : l.length ≤ 2000000) (w : World) (h : RdU w ao l) :
    Calls Try.prog 20 #[.slice ao l.length cap] w (OutI w (fun p => p.length ≤ 5)) := by
  go_enter Try.func20, Try.ntmps20
  go_wp2_with fail
  refine (dNew ao l cap hn _ h).mono ?_
  rintro e w1 ⟨c, rfl, hC, hcb, hb1⟩
  have hs1 := hb1.size
  go_wp2_with fail
  refine (dPermBent c _ hC).mono ?_
  rintro e w2 ⟨v, p, rfl, hpl, hS, hd2⟩
  have hb2 : Below w.heap.size w w2 := hb1.trans (grown_below2 hd2.2 hcb hC.lt)
  have hS2 := hS.mono hs1
  go_wp2
  go_ret
  exact ⟨_, p, rfl, hpl, hS2, hb2⟩

end Go.Proofs.Yteckhaafdojoeaa

/-! M10: Permutations as Lean functions: valid ones, inverses, what they do to indices, their matrices. No walk. -/
namespace Go.Proofs.Yteckhaafdojoeaa

def pchk (p : List Int) (j : Nat) : Bool := inR 0 ((p.length : Int) - 1) (p.getD j 0) && !((p.take j).contains (p.getD j 0))
def isPerm (p : List Int) : Bool := inR 1 4 p.length && (List.range p.length).all (pchk p)
def ivK (p : List Int) : Nat → List Int
  | 0 => List.replicate p.length 0
  | j + 1 => (ivK p j).set (p.getD j 0).toNat j
def invP (p : List Int) : List Int := if isPerm p then ivK p p.length else []
def idxK (p : List Int) (i : Nat) : Nat → Nat
  | 0 => 0
  | j + 1 => idxK p i j ||| bit j i * 2 ^ (p.getD j 0).toNat
def pIdx (p : List Int) (i : Nat) : Nat := idxK p i p.length
def permM (p : List Int) : List (List DO) := if isPerm p then flip (colsM (fun i => basis p.length (pIdx p i)) (2 ^ p.length)) else []

theorem isPerm_iff (p : List Int) : isPerm p = true ↔ inR 1 4 p.length = true ∧ ∀ j, j < p.length → pchk p j = true := by
  rw [isPerm, Bool.and_eq_true, List.all_eq_true]
  simp only [List.mem_range]
theorem isPerm_no1 {p : List Int} (h : ¬ inR 1 4 p.length = true) : isPerm p = false := by
  rw [← Bool.not_eq_true, isPerm_iff]
  exact fun hh => h hh.1
theorem isPerm_no {p : List Int} {j : Nat} (hj : j < p.length) (h : ¬ pchk p j = true) : isPerm p = false := by
  rw [← Bool.not_eq_true, isPerm_iff]
  exact fun hh => h (hh.2 j hj)
theorem pchk_step {p : List Int} {j : Nat} (h : ∀ i, i < j → pchk p i = true) (hj : pchk p j = true) : ∀ i, i < j + 1 → pchk p i = true := fun i hi => by
  by_cases e : i = j
  · subst e; exact hj
  · exact h i (by omega)
theorem isPerm_range {p : List Int} (h : isPerm p = true) {j : Nat} (hj : j < p.length) : 0 ≤ p.getD j 0 ∧ p.getD j 0 < p.length ∧ (p.getD j 0).toNat < p.length := by
  have := ((isPerm_iff p).1 h).2 j hj
  rw [pchk, Bool.and_eq_true] at this
  have := (inR_iff _ _ _).1 this.1
  omega
theorem isPerm_len {p : List Int} (h : isPerm p = true) : 1 ≤ p.length ∧ p.length ≤ 4 := by
  have := (inR_iff _ _ _).1 ((isPerm_iff p).1 h).1
  omega
theorem ivK_length (p : List Int) : ∀ j, (ivK p j).length = p.length
  | 0 => by simp [ivK]
  | j + 1 => by rw [ivK, List.length_set, ivK_length p j]
theorem idxK_lt {p : List Int} {i n : Nat} (hn : p.length = n) (h : ∀ j, j < p.length → (p.getD j 0).toNat < n) : ∀ j, j ≤ p.length → idxK p i j < 2 ^ n
  | 0, _ => Nat.pow_pos (by decide)
  | j + 1, hj => by
    rw [idxK]
    refine Nat.or_lt_two_pow (idxK_lt hn h j (by omega)) ?_
    exact Nat.lt_of_le_of_lt (bit_mul_le _ _ _) (Nat.pow_lt_pow_right (by decide) (h j (by omega)))
theorem pIdx_lt {p : List Int} (h : isPerm p = true) (i : Nat) : pIdx p i < 2 ^ p.length :=
  idxK_lt rfl (fun _ hj => (isPerm_range h hj).2.2) _ (Nat.le_refl _)

/-! ### all permutations of at most four places -/
def permOk (p : List Int) : Bool :=
  !isPerm p || (isPerm (invP p) && (decide ((invP p).length = p.length) && (List.range (2 ^ p.length)).all fun i => decide (pIdx (invP p) (pIdx p i) = i) && decide (pIdx p (pIdx (invP p) i) = i)))
theorem permOk1 : ((List.range 4).all fun a => permOk [(a : Int)]) = true := by decide +kernel
theorem permOk2 : ((List.range 4).all fun a => (List.range 4).all fun b => permOk [(a : Int), (b : Int)]) = true := by decide +kernel
theorem permOk3 : ((List.range 4).all fun a => (List.range 4).all fun b => (List.range 4).all fun c => permOk [(a : Int), (b : Int), (c : Int)]) = true := by decide +kernel
theorem permOk4 : ((List.range 4).all fun a => (List.range 4).all fun b => (List.range 4).all fun c => (List.range 4).all fun d => permOk [(a : Int), (b : Int), (c : Int), (d : Int)]) = true := by decide +kernel
theorem all_range {n : Nat} {f : Nat → Bool} (h : (List.range n).all f = true) {i : Nat} (hi : i < n) : f i = true := by
  rw [List.all_eq_true] at h
  exact h i (List.mem_range.2 hi)
theorem permOk_all {p : List Int} (h : isPerm p = true) : permOk p = true := by
  have hl := isPerm_len h
  have hr := fun j hj => isPerm_range (j := j) h hj
  match p, hl, hr with
  | [a], _, hr =>
    have h0 := hr 0 (by simp)
    simp at h0
    obtain ⟨a, rfl⟩ := Int.eq_ofNat_of_zero_le h0.1
    exact all_range permOk1 (by omega)
  | [a, b], _, hr =>
    have h0 := hr 0 (by simp)
    have h1 := hr 1 (by simp)
    simp at h0 h1
    obtain ⟨a, rfl⟩ := Int.eq_ofNat_of_zero_le h0.1
    obtain ⟨b, rfl⟩ := Int.eq_ofNat_of_zero_le h1.1
    exact all_range (all_range permOk2 (i := a) (by omega)) (by omega)
  | [a, b, c], _, hr =>
    have h0 := hr 0 (by simp)
    have h1 := hr 1 (by simp)
    have h2 := hr 2 (by simp)
    simp at h0 h1 h2
    obtain ⟨a, rfl⟩ := Int.eq_ofNat_of_zero_le h0.1
    obtain ⟨b, rfl⟩ := Int.eq_ofNat_of_zero_le h1.1
    obtain ⟨c, rfl⟩ := Int.eq_ofNat_of_zero_le h2.1
    exact all_range (all_range (all_range permOk3 (i := a) (by omega)) (i := b) (by omega)) (by omega)
  | [a, b, c, d], _, hr =>
    have h0 := hr 0 (by simp)
    have h1 := hr 1 (by simp)
    have h2 := hr 2 (by simp)
    have h3 := hr 3 (by simp)
    simp at h0 h1 h2 h3
    obtain ⟨a, rfl⟩ := Int.eq_ofNat_of_zero_le h0.1
    obtain ⟨b, rfl⟩ := Int.eq_ofNat_of_zero_le h1.1
    obtain ⟨c, rfl⟩ := Int.eq_ofNat_of_zero_le h2.1
    obtain ⟨d, rfl⟩ := Int.eq_ofNat_of_zero_le h3.1
    exact all_range (all_range (all_range (all_range permOk4 (i := a) (by omega)) (i := b) (by omega)) (i := c) (by omega)) (by omega)
theorem perm_facts {p : List Int} (h : isPerm p = true) : isPerm (invP p) = true ∧ (invP p).length = p.length ∧ ∀ i, i < 2 ^ p.length → pIdx (invP p) (pIdx p i) = i ∧ pIdx p (pIdx (invP p) i) = i := by
  have := permOk_all h
  rw [permOk, h] at this
  simp only [Bool.not_true, Bool.false_or, Bool.and_eq_true, decide_eq_true_eq] at this
  refine ⟨this.1, this.2.1, fun i hi => ?_⟩
  have h2 := all_range this.2.2 hi
  simpa using h2

end Go.Proofs.Yteckhaafdojoeaa

/-! M11: Unit vectors in products; permutation matrices are unitary, their adjoints are those of the inverses. No walk. -/
namespace Go.Proofs.Yteckhaafdojoeaa

theorem mulD_one_right {y : DO} (h : y.ok = true) : mulD y ⟨⟨1, 0, 0, 0⟩, 0⟩ = (y, true) := by
  obtain ⟨h1, ⟨h2, h3⟩, _⟩ := (DO.ok_iff _).1 h
  have hm : mulZ y.n ⟨1, 0, 0, 0⟩ = (y.n, true) := by
    rw [mulZ, if_pos (by rw [h1]; rfl)]
    have : mulRaw y.n ⟨1, 0, 0, 0⟩ = y.n := by simp [mulRaw]
    rw [this, chkZ, if_pos h1]
  rw [mulD, if_pos (by rw [h]; rfl), hm, if_pos rfl]
  show newD y.n (y.e + 0) = _
  rw [Int.add_zero]
  exact newD_fix h
/-- The unit vector a of length N. -/
def uvec (N a : Nat) : List DO := (List.replicate N (⟨⟨0, 0, 0, 0⟩, 0⟩ : DO)).set a ⟨⟨1, 0, 0, 0⟩, 0⟩
theorem uvec_length (N a : Nat) : (uvec N a).length = N := by simp [uvec]
theorem uvec_get {N a i : Nat} (h : i < (uvec N a).length) : (uvec N a)[i] = if a = i then ⟨⟨1, 0, 0, 0⟩, 0⟩ else ⟨⟨0, 0, 0, 0⟩, 0⟩ := by
  simp only [uvec, List.getElem_set, List.getElem_replicate]
theorem uvec_split {N a : Nat} (h : a < N) : uvec N a = List.replicate a ⟨⟨0, 0, 0, 0⟩, 0⟩ ++ (⟨⟨1, 0, 0, 0⟩, 0⟩ :: List.replicate (N - 1 - a) ⟨⟨0, 0, 0, 0⟩, 0⟩) := by
  apply List.ext_getElem (by simp [uvec]; omega)
  intro k hk1 hk2
  rw [uvec_get hk1]
  split
  · rename_i hik
    subst hik
    rw [List.getElem_append_right (by simp)]
    simp
  · rename_i hik
    by_cases hlt : k < a
    · rw [List.getElem_append_left (by simpa using hlt), List.getElem_replicate]
    · rw [List.getElem_append_right (by simp; omega), List.getElem_cons]
      rw [dif_neg (by simp; omega), List.getElem_replicate]
theorem dotF_app : ∀ (a b : List (DO × DO)) (s t : DO), dotF s a = (t, true) → dotF s (a ++ b) = dotF t b
  | [], b, s, t, h => by
    have : s = t := by simpa [dotF] using h
    rw [this]; rfl
  | p :: a, b, s, t, h => by
    rw [dotF] at h
    rw [List.cons_append, dotF]
    split at h
    · rename_i hc
      rw [if_pos hc]
      exact dotF_app a b _ t h
    · simp at h
theorem dotF_zl : ∀ (v : List DO) (s : DO), s.ok = true → (∀ x ∈ v, x.ok = true) → dotF s ((List.replicate v.length ⟨⟨0, 0, 0, 0⟩, 0⟩).zip v) = (s, true)
  | [], _, _, _ => rfl
  | x :: v, s, hs, h => by
    rw [List.length_cons, List.replicate_succ, List.zip_cons_cons, dotF, mulD_zero_left (h x (by simp)), addD_zero hs]
    simp only [Bool.and_self, if_true]
    exact dotF_zl v s hs fun y hy => h y (by simp [hy])
theorem dotF_zr : ∀ (v : List DO) (s : DO), s.ok = true → (∀ x ∈ v, x.ok = true) → dotF s (v.zip (List.replicate v.length ⟨⟨0, 0, 0, 0⟩, 0⟩)) = (s, true)
  | [], _, _, _ => rfl
  | x :: v, s, hs, h => by
    rw [List.length_cons, List.replicate_succ, List.zip_cons_cons, dotF, mulD_zero_right (h x (by simp)), addD_zero hs]
    simp only [Bool.and_self, if_true]
    exact dotF_zr v s hs fun y hy => h y (by simp [hy])
theorem parts_at {v : List DO} {a : Nat} (h : a < v.length) : v = v.take a ++ (v[a] :: v.drop (a + 1)) := by
  rw [← List.drop_eq_getElem_cons h, List.take_append_drop]
/-- A unit vector picks a number. -/
theorem dot_ul {v : List DO} {N a : Nat} (hN : v.length = N) (ha : a < N) (hv : ∀ x ∈ v, x.ok = true) : dot (uvec N a) v = (v[a]'(by omega), true) := by
  have hav : a < v.length := by omega
  have h1 : (v.take a).length = a := by rw [List.length_take]; omega
  have h2 : (v.drop (a + 1)).length = N - 1 - a := by rw [List.length_drop]; omega
  have hx := hv v[a] (List.getElem_mem _)
  rw [dot, uvec_split ha]
  conv => lhs; rw [parts_at hav]
  rw [List.zip_append (by rw [List.length_replicate, h1]), List.zip_cons_cons]
  have e1 := dotF_zl (v.take a) ⟨⟨0, 0, 0, 0⟩, 0⟩ zero_ok (fun x hx => hv x (List.mem_of_mem_take hx))
  rw [h1] at e1
  rw [dotF_app _ _ _ _ e1, dotF, mulD_one hx, addD_zero_left hx]
  simp only [Bool.and_self, if_true]
  have e2 := dotF_zl (v.drop (a + 1)) v[a] hx (fun x hx => hv x (List.mem_of_mem_drop hx))
  rw [h2] at e2
  exact e2
theorem dot_ur {v : List DO} {N a : Nat} (hN : v.length = N) (ha : a < N) (hv : ∀ x ∈ v, x.ok = true) : dot v (uvec N a) = (v[a]'(by omega), true) := by
  have hav : a < v.length := by omega
  have h1 : (v.take a).length = a := by rw [List.length_take]; omega
  have h2 : (v.drop (a + 1)).length = N - 1 - a := by rw [List.length_drop]; omega
  have hx := hv v[a] (List.getElem_mem _)
  rw [dot, uvec_split ha]
  conv => lhs; rw [parts_at hav]
  rw [List.zip_append (by rw [List.length_replicate, h1]), List.zip_cons_cons]
  have e1 := dotF_zr (v.take a) ⟨⟨0, 0, 0, 0⟩, 0⟩ zero_ok (fun x hx => hv x (List.mem_of_mem_take hx))
  rw [h1] at e1
  rw [dotF_app _ _ _ _ e1, dotF, mulD_one_right hx, addD_zero_left hx]
  simp only [Bool.and_self, if_true]
  have e2 := dotF_zr (v.drop (a + 1)) v[a] hx (fun x hx => hv x (List.mem_of_mem_drop hx))
  rw [h2] at e2
  exact e2

/-! ### square matrices -/
theorem colsM_get {F : Nat → List DO} {k i : Nat} (h : i < (colsM F k).length) : (colsM F k)[i] = F i := by simp [colsM]
theorem flip_cols (F : Nat → List DO) (N : Nat) : flip (colsM F N) = colsM (fun i => colAt (colsM F N) i) N := by
  rw [flip, colsM_length]
  rfl
theorem colAt_cols (F : Nat → List DO) (N i : Nat) : colAt (colsM F N) i = (List.range N).map fun k => (F k).getD i ⟨⟨0, 0, 0, 0⟩, 0⟩ := by
  simp [colAt, colsM]
theorem colsM_congr {F G : Nat → List DO} {N : Nat} (h : ∀ i, i < N → F i = G i) : colsM F N = colsM G N := by
  rw [colsM, colsM]
  exact List.map_congr_left fun i hi => h i (List.mem_range.1 hi)
theorem flip_flip {F : Nat → List DO} {N : Nat} (h : ∀ i, i < N → (F i).length = N) : flip (flip (colsM F N)) = colsM F N := by
  rw [flip_cols, flip_cols]
  refine colsM_congr fun i hi => ?_
  rw [colAt_cols]
  apply List.ext_getElem (by simp [h i hi])
  intro k h1 h2
  have hk : k < N := by simpa using h1
  simp only [List.getElem_map, List.getElem_range]
  rw [List.getD_eq_getElem?_getD, List.getElem?_eq_getElem (by rw [colAt_length, colsM_length]; exact hi)]
  simp only [colAt_cols, List.getElem_map, List.getElem_range, Option.getD_some]
  rw [List.getD_eq_getElem?_getD, List.getElem?_eq_getElem h2]
  rfl
theorem okM_cols {F : Nat → List DO} {n N : Nat} (hN : 2 ^ n = N) (h1 : 1 ≤ n) (h4 : n ≤ 4) (hl : ∀ i, i < N → (F i).length = N) (hk : ∀ i, i < N → ∀ x ∈ F i, x.ok = true) : okM (colsM F N) = true := by
  have h0 : 0 < N := by rw [← hN]; exact Nat.pow_pos (by decide)
  rw [okM_yes, colsM_length, decide_eq_true h0]
  intro i hi
  rw [colsM_length] at hi
  rw [colsM_get, colsM_length, hl i hi]
  refine ⟨rfl, okS_yes ?_ fun k hk' => hk i hi _ (List.getElem_mem _)⟩
  rw [hl i hi, ← hN, qc_two h1 h4]
  omega
theorem colAt_ok {F : Nat → List DO} {N : Nat} (hk : ∀ i, i < N → ∀ x ∈ F i, x.ok = true) (i : Nat) : ∀ x ∈ colAt (colsM F N) i, x.ok = true := by
  intro x hx
  rw [colAt_cols, List.mem_map] at hx
  obtain ⟨k, hkN, rfl⟩ := hx
  rw [List.getD_eq_getElem?_getD]
  by_cases hi : i < (F k).length
  · rw [List.getElem?_eq_getElem hi]
    exact hk k (List.mem_range.1 hkN) _ (List.getElem_mem _)
  · rw [List.getElem?_eq_none (by omega)]
    rfl
theorem okM_flip {F : Nat → List DO} {n N : Nat} (hN : 2 ^ n = N) (h1 : 1 ≤ n) (h4 : n ≤ 4) (hk : ∀ i, i < N → ∀ x ∈ F i, x.ok = true) : okM (flip (colsM F N)) = true := by
  rw [flip_cols]
  exact okM_cols hN h1 h4 (fun i _ => by rw [colAt_length, colsM_length]) (fun i _ => colAt_ok hk i)
theorem uvec_ok (N a : Nat) : ∀ x ∈ uvec N a, x.ok = true := fun x hx => by
  rcases List.mem_or_eq_of_mem_set hx with hx | rfl
  · rw [List.eq_of_mem_replicate hx]; rfl
  · rfl
theorem uvec_conj (N a : Nat) : (uvec N a).map conjD = uvec N a := by
  apply List.ext_getElem (by simp)
  intro i h1 h2
  rw [List.getElem_map, uvec_get h2]
  split <;> rfl
theorem basis_uvec {n i : Nat} (h1 : 1 ≤ n) (h4 : n ≤ 4) (hi : i < 2 ^ n) : basis n i = uvec (2 ^ n) i := basis_nat h1 h4 hi

theorem permM_cols {p : List Int} {n N : Nat} (h : isPerm p = true) (hn : p.length = n) (hN : 2 ^ n = N) : permM p = flip (colsM (fun i => uvec N (pIdx p i)) N) := by
  have hl := isPerm_len h
  rw [permM, if_pos h, hn, hN]
  congr 1
  refine colsM_congr fun i hi => ?_
  have := pIdx_lt h i
  rw [hn] at this
  rw [basis_uvec (by omega) (by omega) this, hN]
theorem adj_perm {p : List Int} {n N : Nat} (h : isPerm p = true) (hn : p.length = n) (hN : 2 ^ n = N) : adjM (permM p) = colsM (fun i => uvec N (pIdx p i)) N := by
  have hl := isPerm_len h
  rw [permM_cols h hn hN, adjM, if_pos (okM_flip hN (by omega) (by omega) fun i _ => uvec_ok N _), flip_flip fun i _ => uvec_length N _]
  rw [colsM, List.map_map]
  refine List.map_congr_left fun i _ => ?_
  exact uvec_conj N _
theorem pIdx_inj {p : List Int} (h : isPerm p = true) {i j : Nat} (hi : i < 2 ^ p.length) (hj : j < 2 ^ p.length) (e : pIdx p i = pIdx p j) : i = j := by
  have h1 := ((perm_facts h).2.2 i hi).1
  have h2 := ((perm_facts h).2.2 j hj).1
  rw [e, h2] at h1
  exact h1.symm
/-- The adjoint is the inverse's matrix. -/
theorem adj_inv {p : List Int} (h : isPerm p = true) : adjM (permM p) = permM (invP p) := by
  obtain ⟨hi1, hi2, hi3⟩ := perm_facts h
  rw [adj_perm h rfl rfl, permM_cols hi1 hi2 rfl, flip_cols]
  refine colsM_congr fun t ht => ?_
  rw [colAt_cols]
  apply List.ext_getElem (by rw [uvec_length]; simp)
  intro i h1 h2
  have hiN : i < 2 ^ p.length := by rw [uvec_length] at h1; exact h1
  rw [uvec_get h1, List.getElem_map, List.getElem_range, List.getD_eq_getElem?_getD, List.getElem?_eq_getElem (by rw [uvec_length]; exact ht)]
  show _ = (uvec (2 ^ p.length) (pIdx (invP p) i))[t]'(by rw [uvec_length]; exact ht)
  rw [uvec_get]
  have e1 := hi3 t ht
  have e2 := hi3 i hiN
  by_cases e : pIdx p t = i
  · rw [if_pos e, if_pos (by rw [← e]; exact e1.1)]
  · rw [if_neg e, if_neg]
    intro e3
    exact e (by rw [← e3]; exact e2.2)
theorem unit_flip (N : Nat) : flip (colsM (fun i => uvec N i) N) = colsM (fun i => uvec N i) N := by
  rw [flip_cols]
  refine colsM_congr fun t ht => ?_
  rw [colAt_cols]
  apply List.ext_getElem (by rw [uvec_length]; simp)
  intro i h1 h2
  have hiN : i < N := by rw [uvec_length] at h2; exact h2
  rw [uvec_get h2, List.getElem_map, List.getElem_range, List.getD_eq_getElem?_getD, List.getElem?_eq_getElem (by rw [uvec_length]; exact ht)]
  show (uvec N i)[t]'(by rw [uvec_length]; exact ht) = _
  rw [uvec_get]
  by_cases e : i = t
  · rw [if_pos e, if_pos e.symm]
  · rw [if_neg e, if_neg (Ne.symm e)]
theorem headD_get {m : List (List DO)} (h : 0 < m.length) : m.headD [] = m[0] := by
  cases m with
  | nil => simp at h
  | cons a l => rfl
/-- Permutation matrices are unitary. -/
theorem perm_unitary {p : List Int} (h : isPerm p = true) : unitary (permM p) = true := by
  have hl := isPerm_len h
  obtain ⟨n, hn⟩ : ∃ n, p.length = n := ⟨_, rfl⟩
  obtain ⟨N, hN⟩ : ∃ N, 2 ^ n = N := ⟨_, rfl⟩
  have h1 : 1 ≤ n := by omega
  have h4 : n ≤ 4 := by omega
  have hlt : ∀ i, pIdx p i < N := fun i => by have := pIdx_lt h i; rw [hn, hN] at this; exact this
  have hadj := adj_perm h hn hN
  have hpm := permM_cols h hn hN
  obtain ⟨F, hF⟩ : ∃ F : Nat → List DO, F = fun i => uvec N (pIdx p i) := ⟨_, rfl⟩
  rw [← hF] at hadj hpm
  have hFl : ∀ i, (F i).length = N := fun i => by rw [hF]; exact uvec_length N _
  have hFk : ∀ i, ∀ x ∈ F i, x.ok = true := fun i => by rw [hF]; exact uvec_ok N _
  have hA : okM (colsM F N) = true := okM_cols hN h1 h4 (fun i _ => hFl i) (fun i _ => hFk i)
  have hM : okM (flip (colsM F N)) = true := okM_flip hN h1 h4 (fun i _ => hFk i)
  have hap : ∀ j, j < N → applyM (colsM F N) (F j) = (uvec N j, true) := fun j hj => by
    have hS : okS (F j) = true := okS_yes (by rw [hFl, ← hN, qc_two h1 h4]; omega) fun k hk => hFk j _ (List.getElem_mem _)
    have hd : ∀ i, i < N → dot (F i) (F j) = (if j = i then ⟨⟨1, 0, 0, 0⟩, 0⟩ else ⟨⟨0, 0, 0, 0⟩, 0⟩, true) := fun i hi => by
      rw [hF]
      show dot (uvec N (pIdx p i)) (uvec N (pIdx p j)) = _
      rw [dot_ul (uvec_length N _) (hlt i) (uvec_ok N _), uvec_get]
      by_cases e : j = i
      · rw [if_pos e, e, if_pos rfl]
      · rw [if_neg e, if_neg fun e2 => e (pIdx_inj h (by rw [hn, hN]; exact hj) (by rw [hn, hN]; exact hi) e2)]
    rw [applyM, hA, hS, colsM_length, hFl, decide_eq_true rfl]
    simp only [Bool.and_self, if_true]
    rw [if_pos]
    · congr 1
      apply List.ext_getElem (by rw [uvec_length]; simp [colsM_length])
      intro i h5 h6
      have hi : i < N := by rw [uvec_length] at h6; exact h6
      rw [List.getElem_map, colsM_get, hd i hi, uvec_get h6]
    · rw [List.all_eq_true]
      intro r hr
      obtain ⟨i, hi, rfl⟩ := colsM_mem hr
      rw [hd i hi]
  have hff : flip (flip (colsM F N)) = colsM F N := flip_flip fun i _ => hFl i
  have hmul : mulM (adjM (permM p)) (permM p) = (identM n, true) := by
    rw [hadj, hpm, mulM, hA, hM, hff, flip_length, decide_eq_true rfl]
    simp only [Bool.and_self, if_true]
    rw [if_pos]
    · congr 1
      have e1 : (colsM F N).map (fun c => (applyM (colsM F N) c).1) = colsM (fun i => uvec N i) N := by
        rw [colsM, List.map_map]
        refine List.map_congr_left fun i hi => ?_
        show (applyM (colsM F N) (F i)).1 = uvec N i
        rw [hap i (List.mem_range.1 hi)]
      rw [e1, unit_flip, identM, if_pos ((inR_iff _ _ _).2 (by omega))]
      show _ = (List.range (2 ^ n)).map _
      rw [hN]
      refine List.map_congr_left fun i hi => ?_
      rw [basis_uvec h1 h4 (by rw [hN]; exact List.mem_range.1 hi), hN]
    · rw [List.all_eq_true]
      intro c hc
      obtain ⟨i, hi, rfl⟩ := colsM_mem hc
      rw [hap i hi]
  have hq : qc ((permM p).headD []).length = n := by
    have hlen : (permM p).length = N := by rw [hpm, flip_length, colsM_length]
    have h0 : 0 < (permM p).length := by rw [hlen, ← hN]; exact Nat.pow_pos (by decide)
    rw [headD_get h0]
    have h2 := (okM_rows (by rw [hpm]; exact hM) (List.getElem_mem h0)).1
    rw [h2, hlen, ← hN, qc_two h1 h4]
  rw [unitary_yes (by rw [hmul]), hmul, hq]
  simp

end Go.Proofs.Yteckhaafdojoeaa

/-! S40: Permutations: valid ones (IsPermutation, both sides). -/
namespace Go.Proofs.Yteckhaafdojoeaa
open Go.RowKit BigFrame

theorem getD_at {l : List Int} {i : Nat} (h : i < l.length) : l.getD i 0 = l[i] := by rw [List.getD_eq_getElem?_getD, List.getElem?_eq_getElem h]; rfl

/-- Only draws lie between the worlds. -/
def Qt (w w' : World) : Prop := ∃ k, w' = w.drewN k
theorem Qt.drewN {w w' : World} (h : Qt w w') (n : Nat) : Qt w (w'.drewN n) := by
  obtain ⟨k, rfl⟩ := h
  exact ⟨k + n, by simp⟩
theorem Qt.drew2 (w : World) (k n : Nat) : Qt w ((w.drewN k).drewN n) := Qt.drewN ⟨k, rfl⟩ n
theorem Qt.below {w w' : World} (h : Qt w w') : Below w.heap.size w w' := by
  obtain ⟨k, rfl⟩ := h
  exact drewN_below w k

set_option maxRecDepth 100000 in
set_option maxHeartbeats 8000000 in
theorem sIsPermutation (ao : Option Addr) (p : List Int) (cap : Nat) (hn : p.length ≤ 1000) (hcap : p.length ≤ cap) (w : World) (h : RdI w ao p) :
    Calls Try.prog 24 #[.slice ao p.length cap] w fun e w' => e = .returned (.bool (isPerm p)) ∧ Qt w w' := by
  go_enter Try.func24, Try.ntmps24
  go_wp2
  go_loopw [3] (fun z wr => ∃ j : Nat, z = .int .i64 j ∧ j ≤ p.length ∧ Hid (∀ i, i < j → pchk p i = true) ∧ ∃ k, wr = w.drewN k) (fun z _ => p.length - (intOf z).toNat)
  case atStart => exact ⟨0, rfl, Nat.zero_le _, fun _ h => absurd h (Nat.not_lt_zero _), 0, rfl⟩
  case round =>
    obtain ⟨j, rfl, j0, hinv, k, rfl⟩ := hrel
    by_cases hj : j < p.length
    · obtain ⟨b, o, rfl, hlb, hcell⟩ := h.int hj
      obtain ⟨q, hq⟩ : ∃ q, q = p[j] := ⟨_, rfl⟩
      have hpc : pchk p j = (inR 0 ((p.length : Int) - 1) q && !((p.take j).contains q)) := by rw [pchk, getD_at hj, hq]
      have hH : ∀ m, Calls Try.prog 103 #[.slice (some ⟨b, o, none⟩) j cap, .int .i64 q] (w.drewN m) fun e w'' => e = .returned (.bool ((p.take j).contains q)) ∧ w.drewN m = w'' := fun m => by
        have hlen : (p.take j).length = j := by rw [List.length_take]; omega
        have := sHasInt (some ⟨b, o, none⟩) b o cap (p.take j) q (w.drewN m) (by rw [hlen]; omega) (fun _ => rfl) (fun i hi => by
          rw [hlen] at hi
          obtain ⟨b', o', e, _, hc⟩ := h.int (i := i) (by omega)
          cases e
          rw [List.getElem_take]
          exact hc)
        rwa [hlen] at this
      rw [← hq] at hcell
      have hjc : j ≤ cap := by omega
      by_cases hin : inR 0 ((p.length : Int) - 1) q = true
      · have hI : ∀ w', Calls Try.prog 102 #[.int .i64 q, .int .i64 0, .int .i64 ((p.length : Int) - 1)] w' fun e w'' => e = .returned (.bool true) ∧ w' = w'' := fun w' => by
          have := sIn q 0 ((p.length : Int) - 1) w'
          rwa [hin] at this
        rw [hin, Bool.true_and] at hpc
        obtain ⟨cc, hcc⟩ : ∃ cc, cc = (p.take j).contains q := ⟨_, rfl⟩
        rw [← hcc] at hpc hH
        rcases cc with _ | _
        · have hst := Lib.hid (pchk_step hinv.out hpc)
          clear hpc hq hinv hin hcc h
          go_wp2
          go_quiet (first | (go_at_call 102; refine (hI _).mono ?_; rintro e w1 ⟨rfl, rfl⟩; exact ⟨rfl, _, rfl⟩) | (go_at_call 103; refine (hH _).mono ?_; rintro e w1 ⟨rfl, rfl⟩; exact ⟨rfl, _, rfl⟩))
          go_wp2
          go_roundw
          case rel => exact ⟨j + 1, by go_num, by omega, hst.out, _, rfl⟩
          case measure => simp [intOf]; omega
        · have hfin := Lib.hid (isPerm_no hj (by rw [hpc]; simp))
          clear hpc hq hinv hin hcc h
          go_wp2
          go_quiet (first | (go_at_call 102; refine (hI _).mono ?_; rintro e w1 ⟨rfl, rfl⟩; exact ⟨rfl, _, rfl⟩) | (go_at_call 103; refine (hH _).mono ?_; rintro e w1 ⟨rfl, rfl⟩; exact ⟨rfl, _, rfl⟩))
          go_wp2
          go_ret
          exact ⟨by rw [hfin.out]; rfl, by first | exact ⟨_, rfl⟩ | exact Qt.drew2 _ _ _⟩
      · have hin : inR 0 ((p.length : Int) - 1) q = false := by simpa using hin
        have hfin := Lib.hid (isPerm_no hj (by rw [hpc, hin]; simp))
        have hI : ∀ w', Calls Try.prog 102 #[.int .i64 q, .int .i64 0, .int .i64 ((p.length : Int) - 1)] w' fun e w'' => e = .returned (.bool false) ∧ w' = w'' := fun w' => by
          have := sIn q 0 ((p.length : Int) - 1) w'
          rwa [hin] at this
        clear hpc hq hinv hin h hH
        go_wp2
        go_quiet (((go_at_call 102; refine (hI _).mono ?_; rintro e w1 ⟨rfl, rfl⟩; exact ⟨rfl, _, rfl⟩)))
        go_wp2
        go_ret
        exact ⟨by rw [hfin.out]; rfl, by first | exact ⟨_, rfl⟩ | exact Qt.drew2 _ _ _⟩
    · have hf : isPerm p = inR 1 4 p.length := by
        cases hh : inR 1 4 (p.length : Int)
        · exact isPerm_no1 (by rw [hh]; simp)
        · exact (isPerm_iff p).2 ⟨hh, fun i hi => hinv.out i (by omega)⟩
      have hfin := Lib.hid hf
      clear hf hinv
      go_wp2_with (go_at_call 102; refine (sIn _ _ _ _).mono ?_; rintro e w1 ⟨rfl, rfl⟩)
      go_ret
      exact ⟨by rw [hfin.out]; rfl, by first | exact ⟨_, rfl⟩ | exact Qt.drew2 _ _ _⟩

/-- Which of 0 .. 3 are in q. -/
def seenC (q : List Int) : List Value := [.bool (q.contains 0), .bool (q.contains 1), .bool (q.contains 2), .bool (q.contains 3)]
theorem seenC_snoc (q : List Int) (x : Nat) (h : x < 4) : (seenC q).set x (.bool true) = seenC (q ++ [(x : Int)]) := by
  have : x = 0 ∨ x = 1 ∨ x = 2 ∨ x = 3 := by omega
  rcases this with rfl | rfl | rfl | rfl <;> simp [seenC]

set_option maxRecDepth 100000 in
set_option maxHeartbeats 8000000 in
theorem iIsPermutation (ao : Option Addr) (p : List Int) (cap : Nat) (hn : p.length ≤ 1000) (w : World) (h : RdI w ao p) :
    Calls Try.prog 96 #[.slice ao p.length cap] w fun e w' => e = .returned (.bool (isPerm p)) ∧ Below w.heap.size w w' := by
  by_cases h1 : inR 1 4 (p.length : Int) = true
  · have h14 := (inR_iff _ _ _).1 h1
    go_enter Try.func96, Try.ntmps96
    go_wp2_with (go_at_call 116; refine (iIn _ _ _ _).mono ?_; rintro e w1 ⟨rfl, rfl⟩)
    have hB0 : Blk (w.alloc (.cells #[.bool false, .bool false, .bool false, .bool false] 154)) w.heap.size (seenC (p.take 0)) 154 := Blk.new' _ _ rfl
    go_loopw [13] (fun z wr => ∃ j : Nat, z = .int .i64 j ∧ j ≤ p.length ∧ Hid (∀ i, i < j → pchk p i = true) ∧ Blk wr w.heap.size (seenC (p.take j)) 154 ∧ Below w.heap.size w wr) (fun z _ => p.length - (intOf z).toNat)
    case atStart => exact ⟨0, rfl, Nat.zero_le _, fun _ h => absurd h (Nat.not_lt_zero _), hB0, by (repeat (first | with_reducible exact Below.refl _ _ | with_reducible assumption | with_reducible refine Below.setCell ?_ (by first | omega | (simp; done) | (simp; omega)) _ | with_reducible refine Below.alloc ?_ (by first | omega | (simp; done) | (simp; omega)) _ | with_reducible refine Below.drew ?_ | with_reducible refine belowDrewN ?_ _ | with_reducible refine Below.trans ?_ (Below.mono (by assumption) (by first | omega | (simp; done) | (simp; omega)))))⟩
    case round =>
      obtain ⟨j, rfl, j0, hinv, hB, hb0⟩ := hrel
      have hs0 := hb0.size
      by_cases hj : j < p.length
      · obtain ⟨b, o, rfl, hlb, hcell⟩ := (h.below hb0).int hj
        obtain ⟨q, hq⟩ : ∃ q, q = p[j] := ⟨_, rfl⟩
        have hpc : pchk p j = (inR 0 ((p.length : Int) - 1) q && !((p.take j).contains q)) := by rw [pchk, getD_at hj, hq]
        have htk : p.take (j + 1) = p.take j ++ [q] := by rw [List.take_succ_eq_append_getElem hj, hq]
        rw [← hq] at hcell
        by_cases hin : inR 0 ((p.length : Int) - 1) q = true
        · have hI : ∀ w', Calls Try.prog 116 #[.int .i64 q, .int .i64 0, .int .i64 ((p.length : Int) - 1)] w' fun e w'' => e = .returned (.bool true) ∧ w' = w'' := fun w' => by
            have := iIn q 0 ((p.length : Int) - 1) w'
            rwa [hin] at this
          have hqr := (inR_iff _ _ _).1 hin
          rw [hin, Bool.true_and] at hpc
          obtain ⟨q, rfl⟩ := Int.eq_ofNat_of_zero_le hqr.1
          have hq4 : q < 4 := by omega
          have hsn := seenC_snoc (p.take j) q hq4
          rw [← htk] at hsn
          have hB2 := hB.set q (.bool true)
          rw [hsn] at hB2
          have HB2 := Lib.hid hB2
          have hget : (seenC (p.take j))[q]? = some (.bool ((p.take j).contains (q : Int))) := by
            have : q = 0 ∨ q = 1 ∨ q = 2 ∨ q = 3 := by omega
            rcases this with rfl | rfl | rfl | rfl <;> rfl
          have hcs := hB.cell q
          rw [hget] at hcs
          have hfz := hB.frozen
          have hlt := hB.lt
          obtain ⟨cc, hcc⟩ : ∃ cc, cc = (p.take j).contains (q : Int) := ⟨_, rfl⟩
          rw [← hcc] at hpc hcs
          rcases cc with _ | _
          · have hst := Lib.hid (pchk_step hinv.out hpc)
            clear hpc hq hinv hin hcc h htk hsn hB2 hget hB hqr
            go_wp2_with (go_at_call 116; refine (hI _).mono ?_; rintro e w1 ⟨rfl, rfl⟩)
            go_roundw
            case rel => exact ⟨j + 1, by go_num, by omega, hst.out, HB2.out, by (repeat (first | with_reducible exact Below.refl _ _ | with_reducible assumption | with_reducible refine Below.setCell ?_ (by first | omega | (simp; done) | (simp; omega)) _ | with_reducible refine Below.alloc ?_ (by first | omega | (simp; done) | (simp; omega)) _ | with_reducible refine Below.drew ?_ | with_reducible refine belowDrewN ?_ _ | with_reducible refine Below.trans ?_ (Below.mono (by assumption) (by first | omega | (simp; done) | (simp; omega)))))⟩
            case measure => simp [intOf]; omega
          · have hfin := Lib.hid (isPerm_no hj (by rw [hpc]; simp))
            clear hpc hq hinv hin hcc h htk hsn hB2 hget hB hqr HB2
            go_wp2_with (go_at_call 116; refine (hI _).mono ?_; rintro e w1 ⟨rfl, rfl⟩)
            go_ret
            exact ⟨by rw [hfin.out]; rfl, hb0⟩
        · have hin : inR 0 ((p.length : Int) - 1) q = false := by simpa using hin
          have hfin := Lib.hid (isPerm_no hj (by rw [hpc, hin]; simp))
          have hI : ∀ w', Calls Try.prog 116 #[.int .i64 q, .int .i64 0, .int .i64 ((p.length : Int) - 1)] w' fun e w'' => e = .returned (.bool false) ∧ w' = w'' := fun w' => by
            have := iIn q 0 ((p.length : Int) - 1) w'
            rwa [hin] at this
          clear hpc hq hinv hin h htk hB
          go_wp2_with (go_at_call 116; refine (hI _).mono ?_; rintro e w1 ⟨rfl, rfl⟩)
          all_goals go_ret
          all_goals exact ⟨by rw [hfin.out]; rfl, hb0⟩
      · have hfin := Lib.hid ((isPerm_iff p).2 ⟨h1, fun i hi => hinv.out i (by omega)⟩)
        clear hinv
        go_wp2
        go_ret
        exact ⟨by rw [hfin.out]; rfl, hb0⟩
  · have hfin := Lib.hid (isPerm_no1 h1)
    have h1' : inR 1 4 (p.length : Int) = false := by simpa using h1
    clear h1
    go_enter Try.func96, Try.ntmps96
    go_wp2_with (go_at_call 116; refine (iIn _ _ _ _).mono ?_; rintro e w1 ⟨rfl, rfl⟩)
    go_ret
    exact ⟨by rw [hfin.out]; rfl, by (repeat (first | with_reducible exact Below.refl _ _ | with_reducible assumption | with_reducible refine Below.setCell ?_ (by first | omega | (simp; done) | (simp; omega)) _ | with_reducible refine Below.alloc ?_ (by first | omega | (simp; done) | (simp; omega)) _ | with_reducible refine Below.drew ?_ | with_reducible refine belowDrewN ?_ _ | with_reducible refine Below.trans ?_ (Below.mono (by assumption) (by first | omega | (simp; done) | (simp; omega)))))⟩

end Go.Proofs.Yteckhaafdojoeaa

/-! S41: Permutations: inverses, what becomes of an index (InversePermutation, PermuteIndex). -/
namespace Go.Proofs.Yteckhaafdojoeaa
open Go.RowKit BigFrame

theorem OwnI.made {w : World} {base : Nat} {v : Value} {N : Nat} (h : w.ownsRow base TN 1 v N (madeCells #[Value.int .i64 0] N).toList) : OwnI w base v (List.replicate N 0) := by
  have e1 : (madeCells #[Value.int .i64 0] N).toList = flatC icells (List.replicate N 0) := by
    have e2 : flatC icells (List.replicate N 0) = List.replicate N (.int .i64 0) := by
      rw [List.eq_replicate_iff, flatC_length icells_len, List.length_replicate]
      refine ⟨by omega, fun b hb => ?_⟩
      simp only [flatC, List.mem_flatMap, List.mem_replicate] at hb
      obtain ⟨x, ⟨_, rfl⟩, hb⟩ := hb
      simpa [icells] using hb
    rw [e2, List.eq_replicate_iff]
    refine ⟨by simp [madeCells], fun b hb => ?_⟩
    simp only [madeCells, Array.toList_map, List.mem_map] at hb
    obtain ⟨k, _, rfl⟩ := hb
    show (#[Value.int .i64 0] : Array Value)[k % 1]! = _
    rw [Nat.mod_one]
    rfl
  rw [e1] at h
  show w.ownsRow base TN 1 v (List.replicate N _).length _
  rw [List.length_replicate]
  exact h

set_option maxRecDepth 100000 in
set_option maxHeartbeats 8000000 in
theorem iInversePerm (ao : Option Addr) (p : List Int) (cap : Nat) (hn : p.length ≤ 1000) (w : World) (h : RdI w ao p) :
    Calls Try.prog 27 #[.slice ao p.length cap] w (OutI w (fun q => q = invP p)) := by
  obtain ⟨iN, hiN, hzN0, hzN1, hzN2⟩ := info_parts infoN
  by_cases hp : isPerm p = true
  · have hlen := isPerm_len hp
    obtain ⟨n, hpn⟩ : ∃ n, p.length = n := ⟨_, rfl⟩
    have HR := Lib.hid (fun j hj => isPerm_range (p := p) (j := j) hp hj)
    have HI : Hid (invP p = ivK p n) := by rw [← hpn]; exact if_pos hp
    have hP : ∀ w', RdI w' ao p → Calls Try.prog 96 #[.slice ao n cap] w' fun e w'' => e = .returned (.bool true) ∧ Below w'.heap.size w' w'' := fun w' h' => by
      have := iIsPermutation ao p cap hn w' h'
      rwa [hp, hpn] at this
    have HPN := Lib.hid hpn
    have hbytes : iN.bytes * n ≤ 281474976710656 := by rw [hzN2]; omega
    have hmax : n ≤ maxLen := by unfold maxLen; omega
    have hn1 : 1 ≤ n ∧ n ≤ 4 := by omega
    rw [hpn]
    clear hpn hp hlen
    go_enter Try.func27, Try.ntmps27
    go_wp2_with fail
    refine (hP _ h).mono ?_
    rintro e w1 ⟨rfl, hb1⟩
    have hs1 := hb1.size
    go_wp2_with (at_make; refine wpList_make_full _ rfl _ _ 24 rfl w.heap.size TN iN _ 1 Try.underlying24 hiN hzN0 hzN1 _ _ _ _ n rfl rfl rfl rfl hbytes hmax hs1 ?_)
    intro w2 hown hgrow
    have hS0 : OwnI w2 w.heap.size (.slice (some ⟨w1.heap.size, 0, none⟩) n n) (ivK p 0) := by
      rw [ivK, HPN.out]
      refine OwnI.made ?_
      first | exact hown | simpa using hown
    have hb2 : Below w.heap.size w w2 := hb1.grown hgrow hs1 (fun k hk => by cases hk)
    have hlt2 : w1.heap.size < w2.heap.size := (OwnF.lt hS0 w1.heap.size rfl).2
    obtain ⟨G, hG⟩ : ∃ G, G = w1.heap.size := ⟨_, rfl⟩
    rw [← hG] at hS0 hlt2 ⊢
    have hGb : w.heap.size ≤ G := by omega
    clear hown hgrow hb1 hs1 hG hP
    go_wp2
    go_loopw [14] (fun z wr => ∃ j : Nat, z = .int .i64 j ∧ j ≤ n ∧ OwnI wr w.heap.size (.slice (some ⟨G, 0, none⟩) n n) (ivK p j) ∧ G < wr.heap.size ∧ Below w.heap.size w wr) (fun z _ => n - (intOf z).toNat)
    case atStart => exact ⟨0, rfl, Nat.zero_le _, hS0, hlt2, hb2⟩
    case round =>
      obtain ⟨j, rfl, j0, hS, hGs, hb⟩ := hrel
      by_cases hj : j < n
      · have hjp : j < p.length := by rw [HPN.out]; exact hj
        obtain ⟨b, o, rfl, hlb, hcell⟩ := (h.below hb).int hjp
        have hr := HR.out j hjp
        obtain ⟨q, hq⟩ : ∃ q, q = p.getD j 0 := ⟨_, rfl⟩
        rw [← getD_at hjp, ← hq] at hcell
        rw [← hq] at hr
        obtain ⟨r0, r1, r2⟩ := hr
        obtain ⟨q, rfl⟩ := Int.eq_ofNat_of_zero_le r0
        have hqn : q < n := by have := HPN.out; omega
        have hql : q < (ivK p j).length := by rw [ivK_length, HPN.out]; exact hqn
        have cq := hS.intAt hql
        have fz := hS.frozen
        have hS2 := hS.setInt hql (j : Int)
        have e1 : (ivK p j).set q (j : Int) = ivK p (j + 1) := by rw [ivK, ← hq, Int.toNat_natCast]
        rw [e1] at hS2
        have HS2 := Lib.hid hS2
        obtain ⟨old, hold⟩ : ∃ old, old = (ivK p j)[q] := ⟨_, rfl⟩
        rw [← hold] at cq
        clear hS hS2 e1 hq r0 r1 r2 hold h
        go_wp2
        go_roundw
        case rel => exact ⟨j + 1, by go_num, by omega, HS2.out, by simp; omega, by (repeat (first | with_reducible exact Below.refl _ _ | with_reducible assumption | with_reducible refine Below.setCell ?_ (by first | omega | (simp; done) | (simp; omega)) _ | with_reducible refine Below.alloc ?_ (by first | omega | (simp; done) | (simp; omega)) _ | with_reducible refine Below.drew ?_ | with_reducible refine belowDrewN ?_ _ | with_reducible refine Below.trans ?_ (Below.mono (by assumption) (by first | omega | (simp; done) | (simp; omega)))))⟩
        case measure => simp [intOf]; omega
      · have hjn : j = n := by omega
        subst hjn
        go_wp2
        go_ret
        exact ⟨_, _, rfl, HI.out.symm, hS, hb⟩
  · have hP : ∀ w', RdI w' ao p → Calls Try.prog 96 #[.slice ao p.length cap] w' fun e w'' => e = .returned (.bool false) ∧ Below w'.heap.size w' w'' := fun w' h' => by
      have := iIsPermutation ao p cap hn w' h'
      have hp' : isPerm p = false := by simpa using hp
      rwa [hp'] at this
    have HI : Hid (invP p = []) := if_neg hp
    go_enter Try.func27, Try.ntmps27
    go_wp2_with fail
    refine (hP _ h).mono ?_
    rintro e w1 ⟨rfl, hb1⟩
    go_wp2
    go_ret
    exact ⟨_, [], rfl, HI.out.symm, OwnF.nil _ _, hb1⟩

theorem or_nat : ∀ a, a < 16 → ∀ b, b < 16 → bits .or .i64 (a : Nat) (b : Nat) = ((a ||| b : Nat) : Int) := by decide +kernel
theorem shl_nat : ∀ b, b < 2 → ∀ q, q < 4 → wrap64 ((b : Nat) * 2 ^ q) = ((b * 2 ^ q : Nat) : Int) := by decide +kernel

set_option maxRecDepth 100000 in
set_option maxHeartbeats 8000000 in
theorem iPermuteIndex (ao : Option Addr) (p : List Int) (cap i : Nat) (_hcap : p.length ≤ cap) (hp : isPerm p = true) (hi : i < 2 ^ p.length) (w : World) (h : RdI w ao p) :
    Calls Try.prog 98 #[.slice ao p.length cap, .int .i64 i] w fun e w' => e = .returned (.int .i64 (pIdx p i)) ∧ Below w.heap.size w w' := by
  have hlen := isPerm_len hp
  obtain ⟨n, hpn⟩ : ∃ n, p.length = n := ⟨_, rfl⟩
  have HR := Lib.hid (fun j hj => isPerm_range (p := p) (j := j) hp hj)
  have HL := Lib.hid (fun j hj => idxK_lt (p := p) (i := i) rfl (fun _ hj => (isPerm_range hp hj).2.2) j hj)
  have HI : Hid (pIdx p i = idxK p i n) := by rw [← hpn]; rfl
  obtain ⟨N, hN⟩ : ∃ N, 2 ^ n = N := ⟨_, rfl⟩
  have hN16 : N ≤ 16 := by rw [← hN]; exact two_le16 (by omega)
  have hiN : i < N := by rw [← hN, ← hpn]; exact hi
  have hw := wrap_pow n (by omega)
  rw [hN] at hw
  have hP : ∀ w', RdI w' ao p → Calls Try.prog 96 #[.slice ao n cap] w' fun e w'' => e = .returned (.bool true) ∧ Below w'.heap.size w' w'' := fun w' h' => by
    have := iIsPermutation ao p cap (by omega) w' h'
    rw [hp, hpn] at this
    exact this
  have hI : inR 0 ((N : Int) - 1) (i : Int) = true := (inR_iff _ _ _).2 (by omega)
  have hb16 : Hid (2 ^ p.length ≤ 16) := by rw [hpn, hN]; exact hN16
  have HPN := Lib.hid hpn
  have hn1 : 1 ≤ n ∧ n ≤ 4 := by omega
  rw [hpn]
  clear hpn hp hlen hi hN
  go_enter Try.func98, Try.ntmps98
  go_wp2_with fail
  refine (hP _ h).mono ?_
  rintro e w1 ⟨rfl, hb1⟩
  have hs1 := hb1.size
  go_wp2_with (go_at_call 116; refine (iIn _ _ _ _).mono ?_; rintro e w9 ⟨rfl, rfl⟩)
  clear hP hI hw
  go_loopw [5, 22] (fun y z wr => ∃ j : Nat, y = .int .i64 (idxK p i j) ∧ z = .int .i64 j ∧ j ≤ n ∧ w1 = wr) (fun _ z _ => n - (intOf z).toNat)
  case atStart => exact ⟨0, rfl, rfl, Nat.zero_le _, rfl⟩
  case round =>
    obtain ⟨j, rfl, rfl, j0, rfl⟩ := hrel
    by_cases hj : j < n
    · have hjp : j < p.length := by rw [HPN.out]; exact hj
      obtain ⟨b, o, rfl, hlb, hcell⟩ := (h.below hb1).int hjp
      have hr := HR.out j hjp
      obtain ⟨q, hq⟩ : ∃ q, q = p.getD j 0 := ⟨_, rfl⟩
      rw [← getD_at hjp, ← hq] at hcell
      rw [← hq] at hr
      obtain ⟨r0, r1, r2⟩ := hr
      obtain ⟨q, rfl⟩ := Int.eq_ofNat_of_zero_le r0
      have hq4 : q < 4 := by have := HPN.out; omega
      have h16 := HL.out j (by omega)
      have h17 := hb16.out
      obtain ⟨K, hK⟩ : ∃ K, K = idxK p i j := ⟨_, rfl⟩
      have hK2 : idxK p i (j + 1) = K ||| bit j i * 2 ^ q := by rw [idxK, ← hq, ← hK, Int.toNat_natCast]
      obtain ⟨be, hbe⟩ : ∃ be, be = bit j i := ⟨_, rfl⟩
      have hbe2 : be < 2 := by rw [hbe]; exact bit_lt _ _
      have eA := bits_and1 i (by omega) j (by omega)
      rw [← hbe] at eA hK2
      have eS := shl_nat be hbe2 q hq4
      have hb2q : be * 2 ^ q < 16 := by
        have := bit_mul_le j i (2 ^ q)
        rw [← hbe] at this
        exact Nat.lt_of_le_of_lt this (pow_lt16 hq4)
      rw [← hK] at h16 ⊢
      have eO := or_nat K (by omega) (be * 2 ^ q) hb2q
      obtain ⟨S, hS⟩ : ∃ S, S = be * 2 ^ q := ⟨_, rfl⟩
      rw [← hS] at eS eO hK2
      rw [← hK2] at eO
      obtain ⟨K2, hKK⟩ : ∃ K2, K2 = idxK p i (j + 1) := ⟨_, rfl⟩
      rw [← hKK] at eO
      have HKK := Lib.hid hKK
      clear hK hK2 hbe hS hKK h16 h17 hq r0 r1 r2 h hb2q
      go_wp2
      go_roundw
      case rel => exact ⟨j + 1, by rw [HKK.out], by go_num, by omega, by first | rfl | trivial⟩
      case measure => simp [intOf]; omega
    · have hjn : j = n := by omega
      subst hjn
      go_wp2
      go_ret
      exact ⟨by rw [HI.out]; rfl, hb1⟩

set_option maxRecDepth 100000 in
set_option maxHeartbeats 8000000 in
theorem sPermuteIndex (ao : Option Addr) (p : List Int) (cap i : Nat) (hcap : p.length ≤ cap) (hp : isPerm p = true) (hi : i < 2 ^ p.length) (w : World) (h : RdI w ao p) :
    Calls Try.prog 100 #[.slice ao p.length cap, .int .i64 i] w fun e w' => e = .returned (.int .i64 (pIdx p i)) ∧ Below w.heap.size w w' := by
  have hlen := isPerm_len hp
  obtain ⟨n, hpn⟩ : ∃ n, p.length = n := ⟨_, rfl⟩
  have HR := Lib.hid (fun j hj => isPerm_range (p := p) (j := j) hp hj)
  have HL := Lib.hid (fun j hj => idxK_lt (p := p) (i := i) rfl (fun _ hj => (isPerm_range hp hj).2.2) j hj)
  have HI : Hid (pIdx p i = idxK p i n) := by rw [← hpn]; rfl
  obtain ⟨N, hN⟩ : ∃ N, 2 ^ n = N := ⟨_, rfl⟩
  have hN16 : N ≤ 16 := by rw [← hN]; exact two_le16 (by omega)
  have hiN : i < N := by rw [← hN, ← hpn]; exact hi
  have hw := wrap_pow n (by omega)
  rw [hN] at hw
  have hP : ∀ w', RdI w' ao p → Calls Try.prog 24 #[.slice ao n cap] w' fun e w'' => e = .returned (.bool true) ∧ Below w'.heap.size w' w'' := fun w' h' => by
    have := sIsPermutation ao p cap (by omega) hcap w' h'
    rw [hp, hpn] at this
    exact this.mono fun e w'' ⟨h1, h2⟩ => ⟨h1, h2.below⟩
  have hI : inR 0 ((N : Int) - 1) (i : Int) = true := (inR_iff _ _ _).2 (by omega)
  have hb16 : Hid (2 ^ p.length ≤ 16) := by rw [hpn, hN]; exact hN16
  have HPN := Lib.hid hpn
  have hn1 : 1 ≤ n ∧ n ≤ 4 := by omega
  rw [hpn]
  clear hpn hp hlen hi hN
  go_enter Try.func100, Try.ntmps100
  go_wp2_with fail
  refine (hP _ h).mono ?_
  rintro e w1 ⟨rfl, hb1⟩
  have hs1 := hb1.size
  go_wp2_with (go_at_call 102; refine (sIn _ _ _ _).mono ?_; rintro e w9 ⟨rfl, rfl⟩)
  clear hP hI hw
  go_loopw [5, 6] (fun y z wr => ∃ j : Nat, y = .int .i64 (idxK p i j) ∧ z = .int .i64 j ∧ j ≤ n ∧ w1 = wr) (fun _ z _ => n - (intOf z).toNat)
  case atStart => exact ⟨0, rfl, rfl, Nat.zero_le _, rfl⟩
  case round =>
    obtain ⟨j, rfl, rfl, j0, rfl⟩ := hrel
    by_cases hj : j < n
    · have hjp : j < p.length := by rw [HPN.out]; exact hj
      obtain ⟨b, o, rfl, hlb, hcell⟩ := (h.below hb1).int hjp
      have hr := HR.out j hjp
      obtain ⟨q, hq⟩ : ∃ q, q = p.getD j 0 := ⟨_, rfl⟩
      rw [← getD_at hjp, ← hq] at hcell
      rw [← hq] at hr
      obtain ⟨r0, r1, r2⟩ := hr
      obtain ⟨q, rfl⟩ := Int.eq_ofNat_of_zero_le r0
      have hq4 : q < 4 := by have := HPN.out; omega
      have h16 := HL.out j (by omega)
      have h17 := hb16.out
      obtain ⟨K, hK⟩ : ∃ K, K = idxK p i j := ⟨_, rfl⟩
      have hK2 : idxK p i (j + 1) = K ||| bit j i * 2 ^ q := by rw [idxK, ← hq, ← hK, Int.toNat_natCast]
      obtain ⟨be, hbe⟩ : ∃ be, be = bit j i := ⟨_, rfl⟩
      have hbe2 : be < 2 := by rw [hbe]; exact bit_lt _ _
      have eA := bits_and1 i (by omega) j (by omega)
      rw [← hbe] at eA hK2
      have eS := shl_nat be hbe2 q hq4
      have hb2q : be * 2 ^ q < 16 := by
        have := bit_mul_le j i (2 ^ q)
        rw [← hbe] at this
        exact Nat.lt_of_le_of_lt this (pow_lt16 hq4)
      rw [← hK] at h16 ⊢
      have eO := or_nat K (by omega) (be * 2 ^ q) hb2q
      obtain ⟨S, hS⟩ : ∃ S, S = be * 2 ^ q := ⟨_, rfl⟩
      rw [← hS] at eS eO hK2
      rw [← hK2] at eO
      obtain ⟨K2, hKK⟩ : ∃ K2, K2 = idxK p i (j + 1) := ⟨_, rfl⟩
      rw [← hKK] at eO
      have HKK := Lib.hid hKK
      clear hK hK2 hbe hS hKK h16 h17 hq r0 r1 r2 h hb2q
      go_wp2
      go_roundw
      case rel => exact ⟨j + 1, by rw [HKK.out], by go_num, by omega, by first | rfl | trivial⟩
      case measure => simp [intOf]; omega
    · have hjn : j = n := by omega
      subst hjn
      go_wp2
      go_ret
      exact ⟨by rw [HI.out]; rfl, hb1⟩

end Go.Proofs.Yteckhaafdojoeaa

/-! S42: Permutation matrices (PermutationMatrix, both sides). -/
namespace Go.Proofs.Yteckhaafdojoeaa
open Go.RowKit BigFrame

set_option maxRecDepth 100000 in
set_option maxHeartbeats 8000000 in
theorem iPermMatrix (ao : Option Addr) (p : List Int) (cap : Nat) (hcap : p.length ≤ cap) (hl : p.length ≤ 100) (w : World) (h : RdI w ao p) :
    Calls Try.prog 21 #[.slice ao p.length cap] w fun e w' => ∃ x, e = .returned x ∧ OwnM w' w.heap.size x (permM p) ∧ Below w.heap.size w w' := by
  obtain ⟨iS, hiS, hzS0, hzS1, hzS2⟩ := info_parts infoS
  by_cases hp : isPerm p = true
  · have hlen := isPerm_len hp
    have hXI := Lib.hid (fun i hi w' h' => iPermuteIndex ao p cap i hcap hp hi w' h')
    obtain ⟨n, hpn⟩ : ∃ n, p.length = n := ⟨_, rfl⟩
    obtain ⟨N, hN⟩ : ∃ N, 2 ^ n = N := ⟨_, rfl⟩
    have hN16 : N ≤ 16 := by rw [← hN]; exact two_le16 (by omega)
    obtain ⟨F, hF⟩ : ∃ F : Nat → List DO, F = fun i : Nat => basis n (pIdx p i) := ⟨_, rfl⟩
    have hFl : ∀ i, (F i).length = N := fun i => by
      rw [hF]
      show (basis n (pIdx p i)).length = N
      have := pIdx_lt hp i
      rw [hpn] at this
      rw [basis_len (by omega) (by omega) this, hN]
    have hfin : permM p = flip (colsM F N) := by
      rw [permM, if_pos hp, hpn, hN, hF]
    have hcols : (colsM F N).length ≤ 2000000 ∧ ∀ r ∈ colsM F N, (colsM F N).length ≤ r.length ∧ r.length ≤ 2000000 := by
      refine ⟨by rw [colsM_length]; omega, fun r hr => ?_⟩
      obtain ⟨i, hi, rfl⟩ := colsM_mem hr
      have := hFl i
      rw [colsM_length]; omega
    have hP : ∀ w', RdI w' ao p → Calls Try.prog 96 #[.slice ao n cap] w' fun e w'' => e = .returned (.bool true) ∧ Below w'.heap.size w' w'' := fun w' h' => by
      have := iIsPermutation ao p cap (by omega) w' h'
      rwa [hp, hpn] at this
    have hX : ∀ i, i < N → ∀ w', RdI w' ao p → Calls Try.prog 98 #[.slice ao n cap, .int .i64 i] w' fun e w'' => e = .returned (.int .i64 (pIdx p i)) ∧ Below w'.heap.size w' w'' := fun i hi w' h' => by
      have := hXI.out i (by rw [hpn, hN]; exact hi) w' h'
      rwa [hpn] at this
    have hBs : ∀ i w', Calls Try.prog 97 #[.int .i64 n, .int .i64 (pIdx p i)] w' fun e w'' => ∃ v, e = .returned v ∧ OwnS w'' w'.heap.size v (F i) ∧ Below w'.heap.size w' w'' := fun i w' => by
      rw [hF]
      exact iBasisState n (pIdx p i) w'
    have HCOLS := Lib.hid hcols
    have HFIN := Lib.hid hfin
    have HFL := Lib.hid hFl
    have hn14 : 1 ≤ n ∧ n ≤ 4 := by omega
    have hw := wrap_pow n (by omega)
    rw [hN] at hw
    rw [hpn]
    clear hXI hpn hN hF hFl hfin hcols hp hlen
    go_enter Try.func21, Try.ntmps21
    go_wp2_with fail
    refine (hP _ h).mono ?_
    rintro e w1 ⟨rfl, hb1⟩
    have hs1 := hb1.size
    go_wp2
    have hM0 : OwnM (w1.alloc (.cells #[] TS)) w.heap.size (.slice (some ⟨w1.heap.size, 0, none⟩) 0 0) (colsM F 0) := OwnM.empty' rfl hs1
    have hb0 : Below w.heap.size w (w1.alloc (.cells #[] TS)) := hb1.alloc hs1 _
    go_loopw [3, 4] (fun y z wr => ∃ j : Nat, z = .int .i64 j ∧ j ≤ N ∧ OwnM wr w.heap.size y (colsM F j) ∧ Below w.heap.size w wr) (fun _ z _ => N - (intOf z).toNat)
    case atStart => exact ⟨0, rfl, Nat.zero_le _, hM0, hb0⟩
    case round =>
      obtain ⟨j, rfl, j0, hM, hb0⟩ := hrel
      have hs0 := hb0.size
      obtain ⟨yo, yc, rfl, hyR, hyc1, hyc2⟩ := hM.read
      by_cases hj : j < N
      · obtain ⟨vs, ho, hrows, hdist⟩ := hM.parts
        have hd : decide (j < N) = true := by simpa using hj
        clear hyR hM
        have hb9 : Below wr.heap.size wr wr := Below.refl _ _
        have hs9 := hb9.size
        have h9 := h.below hb0
        go_wp2_with fail
        refine (hX j hj _ h9).mono ?_
        rintro e wa ⟨rfl, hba⟩
        have hsa := hba.size
        go_wp2_with fail
        refine (hBs j _).mono ?_
        rintro e wc ⟨y, rfl, hy, hbc⟩
        have hsc := hbc.size
        obtain ⟨uo, uc, rfl, _, _, _⟩ := hy.read
        have hwc : Below wr.heap.size wr wc := (hb9.trans (hba.mono hs9)).trans (hbc.mono (by omega))
        have hy2 := hy.mono (base' := wr.heap.size) (by omega)
        have ho1 := ownsRow_below ho hwc (Nat.le_refl _)
        have hb8 : Below w.heap.size w wc := hb0.trans (hwc.mono hs0)
        have HF := Lib.hid (HFL.out j)
        clear hy hba hbc hb0 hb9 h9
        rw [HF.out]
        go_wp2_with (first | (at_builtin; refine wpList_append_own _ rfl _ _ 26 rfl w.heap.size TS iS _ 1 24 Try.underlying26 hiS hzS0 hzS1 hzS2 rfl (by decide) _ _ _ (by rw [colsM_length]; rfl) (World.ownsRow.alloc ho1 _) ⟨wc.heap.size, 0, none⟩ 1 1 [.slice uo N uc] rfl rfl ?c1 ?c2 ?c3 ?c4 ?c5 ?_))
        case c1 => exact at_new _ [Value.slice uo N uc] _
        case c2 => exact slice_one _ _ _
        case c3 => unfold maxLen; omega
        case c4 => omega
        case c5 => simp; omega
        intro v' w' hown' hgrow _
        have hM' : OwnM w' w.heap.size v' (colsM F (j + 1)) := OwnM.push (by omega) ho hrows hdist hwc (by rw [← HF.out]; exact hy2) hown' hgrow
        have hbb : Below w.heap.size w w' := (hb8.alloc (by omega) _).grown hgrow (by simp; omega) fun g hg => by have := (World.ownsRow.lt ho1 g hg).1; omega
        clear hown' hgrow ho ho1 hrows hdist
        go_wp2
        go_roundw
        case rel => exact ⟨j + 1, by go_num, by omega, hM', hbb⟩
        case measure => simp [intOf]; omega
      · have hjn : j = N := by omega
        have hd : decide (j < N) = false := by simpa using hj
        have hs9 := Nat.le_refl wr.heap.size
        have hyR9 := hyR
        have hb90 := hb0
        subst hjn
        go_wp2_with fail
        refine (iFlipped _ (colsM F j) _ HCOLS.out.1 HCOLS.out.2 _ hyR9).mono ?_
        rintro e w7 ⟨x, rfl, hx, hb7⟩
        have hx2 := hx.mono (base' := w.heap.size) (by omega)
        rw [← HFIN.out] at hx2
        go_wp2
        go_ret
        exact ⟨_, rfl, hx2, by (repeat (first | with_reducible exact Below.refl _ _ | with_reducible assumption | with_reducible refine Below.setCell ?_ (by first | omega | (simp; done) | (simp; omega)) _ | with_reducible refine Below.alloc ?_ (by first | omega | (simp; done) | (simp; omega)) _ | with_reducible refine Below.drew ?_ | with_reducible refine belowDrewN ?_ _ | with_reducible refine Below.trans ?_ (Below.mono (by assumption) (by first | omega | (simp; done) | (simp; omega)))))⟩
  · have hfin : permM p = [] := if_neg hp
    have HFIN := Lib.hid hfin
    have hp' : isPerm p = false := by simpa using hp
    have hP : ∀ w', RdI w' ao p → Calls Try.prog 96 #[.slice ao p.length cap] w' fun e w'' => e = .returned (.bool false) ∧ Below w'.heap.size w' w'' := fun w' h' => by
      have := iIsPermutation ao p cap (by omega) w' h'
      rwa [hp'] at this
    clear hfin hp hp'
    go_enter Try.func21, Try.ntmps21
    go_wp2_with fail
    refine (hP _ h).mono ?_
    rintro e w1 ⟨rfl, hb1⟩
    go_wp2
    go_ret
    exact ⟨_, rfl, by rw [HFIN.out]; exact OwnM.nil _ _, hb1⟩

set_option maxRecDepth 100000 in
set_option maxHeartbeats 8000000 in
theorem sPermMatrix (ao : Option Addr) (p : List Int) (cap : Nat) (hcap : p.length ≤ cap) (hl : p.length ≤ 100) (w : World) (h : RdI w ao p) :
    Calls Try.prog 23 #[.slice ao p.length cap] w fun e w' => ∃ x, e = .returned x ∧ OwnM w' w.heap.size x (permM p) ∧ Below w.heap.size w w' := by
  obtain ⟨iS, hiS, hzS0, hzS1, hzS2⟩ := info_parts infoS
  by_cases hp : isPerm p = true
  · have hlen := isPerm_len hp
    have hXI := Lib.hid (fun i hi w' h' => sPermuteIndex ao p cap i hcap hp hi w' h')
    obtain ⟨n, hpn⟩ : ∃ n, p.length = n := ⟨_, rfl⟩
    obtain ⟨N, hN⟩ : ∃ N, 2 ^ n = N := ⟨_, rfl⟩
    have hN16 : N ≤ 16 := by rw [← hN]; exact two_le16 (by omega)
    obtain ⟨F, hF⟩ : ∃ F : Nat → List DO, F = fun i : Nat => basis n (pIdx p i) := ⟨_, rfl⟩
    have hFl : ∀ i, (F i).length = N := fun i => by
      rw [hF]
      show (basis n (pIdx p i)).length = N
      have := pIdx_lt hp i
      rw [hpn] at this
      rw [basis_len (by omega) (by omega) this, hN]
    have hfin : permM p = flip (colsM F N) := by
      rw [permM, if_pos hp, hpn, hN, hF]
    have hcols : (colsM F N).length ≤ 2000000 ∧ ∀ r ∈ colsM F N, (colsM F N).length ≤ r.length ∧ r.length ≤ 2000000 := by
      refine ⟨by rw [colsM_length]; omega, fun r hr => ?_⟩
      obtain ⟨i, hi, rfl⟩ := colsM_mem hr
      have := hFl i
      rw [colsM_length]; omega
    have hP : ∀ w', RdI w' ao p → Calls Try.prog 24 #[.slice ao n cap] w' fun e w'' => e = .returned (.bool true) ∧ Below w'.heap.size w' w'' := fun w' h' => by
      have := sIsPermutation ao p cap (by omega) hcap w' h'
      rw [hp, hpn] at this
      exact this.mono fun e w'' ⟨h1, h2⟩ => ⟨h1, h2.below⟩
    have hX : ∀ i, i < N → ∀ w', RdI w' ao p → Calls Try.prog 100 #[.slice ao n cap, .int .i64 i] w' fun e w'' => e = .returned (.int .i64 (pIdx p i)) ∧ Below w'.heap.size w' w'' := fun i hi w' h' => by
      have := hXI.out i (by rw [hpn, hN]; exact hi) w' h'
      rwa [hpn] at this
    have hBs : ∀ i w', Calls Try.prog 74 #[.int .i64 n, .int .i64 (pIdx p i)] w' fun e w'' => ∃ v, e = .returned v ∧ OwnS w'' w'.heap.size v (F i) ∧ Below w'.heap.size w' w'' := fun i w' => by
      rw [hF]
      exact sBasisState n (pIdx p i) w'
    have HCOLS := Lib.hid hcols
    have HFIN := Lib.hid hfin
    have HFL := Lib.hid hFl
    have hn14 : 1 ≤ n ∧ n ≤ 4 := by omega
    have hw := wrap_pow n (by omega)
    rw [hN] at hw
    rw [hpn]
    clear hXI hpn hN hF hFl hfin hcols hp hlen
    go_enter Try.func23, Try.ntmps23
    go_wp2
    have hM0 : OwnM (w.alloc (.cells #[] TS)) w.heap.size (.slice (some ⟨w.heap.size, 0, none⟩) 0 0) (colsM F 0) := OwnM.empty' rfl (Nat.le_refl _)
    have hb0 : Below w.heap.size w (w.alloc (.cells #[] TS)) := by (repeat (first | with_reducible exact Below.refl _ _ | with_reducible assumption | with_reducible refine Below.setCell ?_ (by first | omega | (simp; done) | (simp; omega)) _ | with_reducible refine Below.alloc ?_ (by first | omega | (simp; done) | (simp; omega)) _ | with_reducible refine Below.drew ?_ | with_reducible refine belowDrewN ?_ _ | with_reducible refine Below.trans ?_ (Below.mono (by assumption) (by first | omega | (simp; done) | (simp; omega)))))
    go_loopw [3, 4] (fun y z wr => ∃ j : Nat, z = .int .i64 j ∧ j ≤ N ∧ OwnM wr w.heap.size y (colsM F j) ∧ Below w.heap.size w wr) (fun _ z _ => N - (intOf z).toNat)
    case atStart => exact ⟨0, rfl, Nat.zero_le _, hM0, hb0⟩
    case round =>
      obtain ⟨j, rfl, j0, hM, hb0⟩ := hrel
      have hs0 := hb0.size
      obtain ⟨yo, yc, rfl, hyR, hyc1, hyc2⟩ := hM.read
      by_cases hj : j < N
      · obtain ⟨vs, ho, hrows, hdist⟩ := hM.parts
        have hd : decide (j < N) = true := by simpa using hj
        clear hyR hM
        go_wp2_with fail
        refine (hP _ (h.below hb0)).mono ?_
        rintro e w9 ⟨rfl, hb9⟩
        have hs9 := hb9.size
        have h9 := h.below (hb0.trans (hb9.mono hs0))
        go_wp2_with fail
        refine (hX j hj _ h9).mono ?_
        rintro e wa ⟨rfl, hba⟩
        have hsa := hba.size
        go_wp2_with fail
        refine (hBs j _).mono ?_
        rintro e wc ⟨y, rfl, hy, hbc⟩
        have hsc := hbc.size
        obtain ⟨uo, uc, rfl, _, _, _⟩ := hy.read
        have hwc : Below wr.heap.size wr wc := (hb9.trans (hba.mono hs9)).trans (hbc.mono (by omega))
        have hy2 := hy.mono (base' := wr.heap.size) (by omega)
        have ho1 := ownsRow_below ho hwc (Nat.le_refl _)
        have hb8 : Below w.heap.size w wc := hb0.trans (hwc.mono hs0)
        have HF := Lib.hid (HFL.out j)
        clear hy hba hbc hb0 hb9 h9
        rw [HF.out]
        go_wp2_with (first | (at_builtin; refine wpList_append_own _ rfl _ _ 26 rfl w.heap.size TS iS _ 1 24 Try.underlying26 hiS hzS0 hzS1 hzS2 rfl (by decide) _ _ _ (by rw [colsM_length]; rfl) (World.ownsRow.alloc ho1 _) ⟨wc.heap.size, 0, none⟩ 1 1 [.slice uo N uc] rfl rfl ?c1 ?c2 ?c3 ?c4 ?c5 ?_))
        case c1 => exact at_new _ [Value.slice uo N uc] _
        case c2 => exact slice_one _ _ _
        case c3 => unfold maxLen; omega
        case c4 => omega
        case c5 => simp; omega
        intro v' w' hown' hgrow _
        have hM' : OwnM w' w.heap.size v' (colsM F (j + 1)) := OwnM.push (by omega) ho hrows hdist hwc (by rw [← HF.out]; exact hy2) hown' hgrow
        have hbb : Below w.heap.size w w' := (hb8.alloc (by omega) _).grown hgrow (by simp; omega) fun g hg => by have := (World.ownsRow.lt ho1 g hg).1; omega
        clear hown' hgrow ho ho1 hrows hdist
        go_wp2
        go_roundw
        case rel => exact ⟨j + 1, by go_num, by omega, hM', hbb⟩
        case measure => simp [intOf]; omega
      · have hjn : j = N := by omega
        have hd : decide (j < N) = false := by simpa using hj
        go_wp2_with fail
        refine (hP _ (h.below hb0)).mono ?_
        rintro e w9 ⟨rfl, hb9⟩
        have hs9 := hb9.size
        have hyR9 := hyR.below hb9
        have hb90 := hb0.trans (hb9.mono hs0)
        subst hjn
        go_wp2_with fail
        refine (sColumns _ (colsM F j) _ HCOLS.out.1 HCOLS.out.2 _ hyR9).mono ?_
        rintro e w7 ⟨x, rfl, hx, hb7⟩
        have hx2 := hx.mono (base' := w.heap.size) (by omega)
        rw [← HFIN.out] at hx2
        go_wp2
        go_ret
        exact ⟨_, rfl, hx2, by (repeat (first | with_reducible exact Below.refl _ _ | with_reducible assumption | with_reducible refine Below.setCell ?_ (by first | omega | (simp; done) | (simp; omega)) _ | with_reducible refine Below.alloc ?_ (by first | omega | (simp; done) | (simp; omega)) _ | with_reducible refine Below.drew ?_ | with_reducible refine belowDrewN ?_ _ | with_reducible refine Below.trans ?_ (Below.mono (by assumption) (by first | omega | (simp; done) | (simp; omega)))))⟩
  · have hfin : permM p = [] := if_neg hp
    have HFIN := Lib.hid hfin
    have hp' : isPerm p = false := by simpa using hp
    have hP : ∀ w', RdI w' ao p → Calls Try.prog 24 #[.slice ao p.length cap] w' fun e w'' => e = .returned (.bool false) ∧ Below w'.heap.size w' w'' := fun w' h' => by
      have := sIsPermutation ao p cap (by omega) hcap w' h'
      rw [hp'] at this
      exact this.mono fun e w'' ⟨h1, h2⟩ => ⟨h1, h2.below⟩
    clear hfin hp hp'
    go_enter Try.func23, Try.ntmps23
    go_wp2
    refine wp_loop_rounds 1 ?_
    rw [rounds_succ]
    go_wp2_with fail
    refine (hP _ (h.below (by (repeat (first | with_reducible exact Below.refl _ _ | with_reducible assumption | with_reducible refine Below.setCell ?_ (by first | omega | (simp; done) | (simp; omega)) _ | with_reducible refine Below.alloc ?_ (by first | omega | (simp; done) | (simp; omega)) _ | with_reducible refine Below.drew ?_ | with_reducible refine belowDrewN ?_ _ | with_reducible refine Below.trans ?_ (Below.mono (by assumption) (by first | omega | (simp; done) | (simp; omega)))))))).mono ?_
    rintro e w1 ⟨rfl, hb1⟩
    have hs1 := hb1.size
    simp only [World.size_alloc] at hs1
    go_wp2_with fail
    refine (sColumns _ [] _ (by decide) (fun r hr => by cases hr) _ (fun i hi => by cases hi)).mono ?_
    rintro e w2 ⟨x, rfl, hx, hb2⟩
    have hx2 := hx.mono (base' := w.heap.size) (by omega)
    go_wp2
    go_ret
    exact ⟨_, rfl, by rw [HFIN.out]; exact hx2, by (repeat (first | with_reducible exact Below.refl _ _ | with_reducible assumption | with_reducible refine Below.setCell ?_ (by first | omega | (simp; done) | (simp; omega)) _ | with_reducible refine Below.alloc ?_ (by first | omega | (simp; done) | (simp; omega)) _ | with_reducible refine Below.drew ?_ | with_reducible refine belowDrewN ?_ _ | with_reducible refine Below.trans ?_ (Below.mono (by assumption) (by first | omega | (simp; done) | (simp; omega)))))⟩

end Go.Proofs.Yteckhaafdojoeaa
