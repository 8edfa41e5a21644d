/- The laws' copy of a matrix. -/
import Derived.Test.YteckhaafdojoeaaL3
namespace Go.Proofs.Yteckhaafdojoeaa
open Go.RowKit

theorem OwnM.made {w : World} {base : Nat} {v : Value} {N : Nat} (h : w.ownsRow base TS 1 v N (madeCells #[Value.slice none 0 0] N).toList) : OwnM w base v (List.replicate N []) := by
  have hv : (madeCells #[Value.slice none 0 0] N).toList = List.replicate N (Value.slice none 0 0) := by
    rw [List.eq_replicate_iff]
    refine ⟨by simp [madeCells], fun b hb => ?_⟩
    simp only [madeCells, Array.toList_map, List.mem_map] at hb
    obtain ⟨k, _, rfl⟩ := hb
    show (#[Value.slice none 0 0] : Array Value)[k % 1]! = _
    rw [Nat.mod_one]
    rfl
  rw [hv] at h
  refine ⟨List.replicate N (Value.slice none 0 0), by rw [List.length_replicate]; exact h, fun i hi => ⟨Value.slice none 0 0, ?_, ?_⟩, fun i j x y _ hx _ a ha => ?_⟩
  · rw [List.length_replicate] at hi
    rw [List.getElem?_replicate, if_pos hi]
  · rw [List.getElem_replicate]
    exact OwnS.nil _ _
  · rw [List.getElem?_replicate] at hx
    split at hx
    · cases hx; simp [Value.ownBlock] at ha
    · cases hx

theorem OwnM.setRow {w w1 : World} {base g cap k : Nat} {m : List (List DO)} {x : Value} {r : List DO} (h : OwnM w base (.slice (some ⟨g, 0, none⟩) m.length cap) m) (hk : k < m.length) (hbase : base ≤ w.heap.size) (hb : Below w.heap.size w w1) (hx : OwnS w1 w.heap.size x r) :
    OwnM (w1.setCell ⟨g, k, none⟩ x) base (.slice (some ⟨g, 0, none⟩) m.length cap) (m.set k r) := by
  obtain ⟨vs, ho, hr, hd⟩ := h
  have hvl : vs.length = m.length := by have := ho.1; omega
  have ho1 := ownsRow_below ho hb (Nat.le_refl _)
  obtain ⟨ho2, hg⟩ := World.ownsRow.stored ho1 k x
  have keep : ∀ {y : Value} {l : List DO} {bb : Nat}, OwnS w1 bb y l → OwnS (w1.setCell ⟨g, k, none⟩ x) bb y l := fun {y l bb} hy =>
    World.ownsRow.kept hy hg (OwnS.apart hy ho1)
  refine ⟨vs.set k x, by rw [List.length_set]; exact ho2, fun i hi => ?_, fun i j y z hij hy hz a ha => ?_⟩
  · have hi' : i < m.length := by simpa using hi
    by_cases hik : i = k
    · subst hik
      refine ⟨x, by rw [List.getElem?_set_self (by omega)], ?_⟩
      rw [List.getElem_set_self]
      exact keep (hx.mono hbase)
    · obtain ⟨y, hy, hS⟩ := hr i hi'
      refine ⟨y, by rw [List.getElem?_set_ne (by omega)]; exact hy, ?_⟩
      rw [List.getElem_set_ne (by omega)]
      exact keep (hS.below hb (Nat.le_refl _))
  · have old : ∀ (q : Nat) (y : Value), q ≠ k → (vs.set k x)[q]? = some y → vs[q]? = some y ∧ ∀ a, y.ownBlock = some a → a < w.heap.size := fun q y hq hy => by
      rw [List.getElem?_set_ne (by omega)] at hy
      refine ⟨hy, fun a ha => ?_⟩
      have hql : q < m.length := by have := (List.getElem?_eq_some_iff.1 hy).1; omega
      obtain ⟨y', hy', hS⟩ := hr q hql
      rw [hy] at hy'
      cases hy'
      exact (World.ownsRow.lt hS a ha).2
    have new : ∀ (q : Nat) (y : Value), q = k → (vs.set k x)[q]? = some y → ∀ a, y.ownBlock = some a → w.heap.size ≤ a := fun q y hq hy a ha => by
      subst hq
      rw [List.getElem?_set_self (by omega)] at hy
      cases hy
      exact (World.ownsRow.lt hx a ha).1
    intro hza
    by_cases hi : i = k
    · have h1 := new i y hi hy a ha
      have h2 := (old j z (by omega) hz).2 a hza
      omega
    · by_cases hj : j = k
      · have h1 := new j z hj hz a hza
        have h2 := (old i y hi hy).2 a ha
        omega
      · exact hd i j y z hij (old i y hi hy).1 (old j z hj hz).1 a ha hza

theorem OwnM.frozen {w : World} {base g n cap : Nat} {m : List (List DO)} (h : OwnM w base (.slice (some ⟨g, 0, none⟩) n cap) m) (o : Nat) : w.frozen? ⟨g, o, none⟩ = false := by
  obtain ⟨vs, ho, _, _⟩ := h
  rcases ho.2 with ⟨e, _⟩ | ⟨g', cap', cur, e, _, hg, _⟩
  · cases e
  · cases e
    exact frozen_of_row w g o cur TS hg
theorem OwnM.cell {w : World} {base g n cap k : Nat} {m : List (List DO)} (h : OwnM w base (.slice (some ⟨g, 0, none⟩) n cap) m) (hk : k < m.length) : ∃ v, w.cell? ⟨g, k, none⟩ = some v := by
  obtain ⟨vs, ho, hr, _⟩ := h
  obtain ⟨x, hx, _⟩ := hr k hk
  have hvl : vs.length = m.length := by have := ho.1; omega
  rcases ho.2 with ⟨e, _⟩ | ⟨g', cap', cur, e, _, hg, _⟩
  · cases e
  · cases e
    exact ⟨x, by rw [World.ownsRow.cellAt ho k (by omega), hx]⟩

set_option maxRecDepth 100000 in
set_option maxHeartbeats 4000000 in
theorem lToSS (ao : Option Addr) (m : List (List DO)) (cap : Nat) (hz : SzM m) (w : World) (h : MtR w ao m) :
    Calls Try.prog 42 #[.slice ao m.length cap] w fun e w' => ∃ v, e = .returned v ∧ OwnM w' w.heap.size v m ∧ Below w.heap.size w w' := by
  obtain ⟨hz1, hz2⟩ := hz
  obtain ⟨iS, hiS, hzS0, hzS1, hzS2⟩ := info_parts infoS
  have hbytes : iS.bytes * m.length ≤ 281474976710656 := by rw [hzS2]; omega
  have hmax : m.length ≤ maxLen := by unfold maxLen; omega
  go_enter Try.func42, Try.ntmps42
  go_wp2_with (first | (at_make; refine wpList_make_full _ rfl _ _ 26 rfl w.heap.size TS iS _ 1 Try.underlying26 hiS hzS0 hzS1 _ _ _ _ m.length rfl rfl rfl rfl hbytes hmax (Nat.le_refl _) ?_))
  intro w1 hown hgrow
  have hM := OwnM.made (N := m.length) hown
  rw [← toP_zero] at hM
  have hb1 : Below w.heap.size w w1 := (Below.refl _ _).grown hgrow (Nat.le_refl _) (fun k hk => by cases hk)
  have hs1 := hb1.size
  have hlt : w.heap.size < w1.heap.size := by obtain ⟨vs, ho, _⟩ := hM; exact (World.ownsRow.lt ho w.heap.size rfl).2
  clear hown hgrow
  go_wp2
  go_loopw [4] (fun x wr => ∃ j : Nat, x = .int .i64 j ∧ j ≤ m.length ∧ OwnM wr w.heap.size (.slice (some ⟨w.heap.size, 0, none⟩) m.length m.length) (toP [] m j) ∧ Below w.heap.size w wr ∧ w.heap.size < wr.heap.size) (fun x _ => m.length - (intOf x).toNat)
  case atStart => exact ⟨0, rfl, Nat.zero_le _, hM, hb1, hlt⟩
  case round =>
    obtain ⟨j, rfl, j0, hM4, hb4, hg4⟩ := hrel
    have hs4 := hb4.size
    by_cases hj : j < m.length
    · obtain ⟨b, o, rfl, hlb, ro, rc, hcell, hR⟩ := (h.below hb4) j hj
      have hlj := hz2 m[j] (List.getElem_mem _)
      have hPl := toP_length ([] : List DO) m j j0
      go_wp2_with fail
      refine (lToS _ m[j] _ hlj _ hR).mono ?_
      rintro e w5 ⟨x, rfl, hx, hb5⟩
      have hs5 := hb5.size
      obtain ⟨xo, xc, rfl, _, _, _⟩ := hx.read
      have hM5 := hM4.below hb5 (Nat.le_refl _)
      obtain ⟨v0, hc0⟩ := hM5.cell (k := j) (by rw [hPl]; exact hj)
      have hfz := hM5.frozen
      have hnext : OwnM (w5.setCell ⟨w.heap.size, j, none⟩ (.slice xo m[j].length xc)) w.heap.size (.slice (some ⟨w.heap.size, 0, none⟩) m.length m.length) (toP [] m (j + 1)) := by
        have hq := OwnM.setRow (k := j) (x := .slice xo m[j].length xc) (by rw [hPl]; exact hM4) (by rw [hPl]; exact hj) hs4 hb5 hx
        rw [hPl, toP_step _ _ hj] at hq
        exact hq
      have hb6 : Below w.heap.size w (w5.setCell ⟨w.heap.size, j, none⟩ (.slice xo m[j].length xc)) := (hb4.trans (hb5.mono hs4)).setCell (Nat.le_refl _) _
      have HPL := Lib.hid hPl
      clear hM4 hM5 hM hPl h
      go_wp2
      go_roundw
      case rel => exact ⟨j + 1, by go_num, by omega, hnext, hb6, by simp; omega⟩
      case measure => simp [intOf]; omega
    · rw [toP_end _ _ (by omega)] at hM4
      go_wp2
      go_ret
      exact ⟨_, rfl, hM4, by (repeat (first | with_reducible exact Below.refl _ _ | with_reducible assumption | with_reducible refine Below.setCell ?_ (by first | omega | (simp; done) | (simp; omega)) _ | with_reducible refine Below.alloc ?_ (by first | omega | (simp; done) | (simp; omega)) _ | with_reducible refine Below.drew ?_ | with_reducible refine belowDrewN ?_ _ | with_reducible refine Below.trans ?_ (Below.mono (by assumption) (by first | omega | (simp; done) | (simp; omega)))))⟩

end Go.Proofs.Yteckhaafdojoeaa
